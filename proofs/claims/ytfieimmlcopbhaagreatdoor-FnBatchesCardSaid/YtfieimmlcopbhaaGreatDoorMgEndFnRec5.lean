/-
  SEVERAL SMALL TEXTS LAID TOGETHER: Draw, Strs, Env, Mark, V2, Mat, Find, Door, DrawM, CutW, Join, Marks, StrC, Asg, DoorP, ShW, AppS, AsgV, Tab, TabI, TabS, Best, BestV, BestI, BestC, Opt, DrawA.
-/
import Derived.Test.YtfieimmlcopbhaaGreatDoorMgEndFnRec0
import Derived.Laws.Bits128
import Derived.Test.YtfieimmlcopbhaaGreatDoorMgEndFnRec1
import Derived.Test.YtfieimmlcopbhaaGreatDoorMgEndFnRec2
import Derived.StillTailTactics
import Derived.Deep.QuietTactic
import Derived.BigQuiet
import Derived.LaidLaws
import Derived.Lay
import Derived.Handed
import Derived.JoinedAt
import Derived.Stop.LaidErr
import Derived.Laws.OwnMore

namespace Go.Proofs.YtfieimmlcopbhaaGreatDoor
open Go.RowKit

def u8R : Rep Int := ⟨1, fun _ cs x => cs = [.int .u8 x] ∧ 0 ≤ x ∧ x ≤ 255, fun h => by simp [h.1], fun _ h => h⟩
theorem reads_u8 {P : Program} {e : TypeId} (he : P.underlying e = some (.int .u8)) (hc : P.cellsOf e = 1) : Reads P e u8R :=
  ⟨hc, fun h => by
    obtain ⟨n, rfl, _, hw⟩ := DataW.trod_int he h
    exact ⟨n, rfl, by simpa [Lit.wf, IntKind.min, IntKind.max, IntKind.signed, IntKind.bits] using hw⟩⟩
theorem Sl.u8 {w : World} {A : Option Addr} {n cap : Nat} {xs : List Int} (h : Sl u8R w (.slice A n cap) xs) {i : Nat} (hi : i < xs.length) :
    ∃ b off, A = some ⟨b, off, none⟩ ∧ (0 ≤ xs[i] ∧ xs[i] ≤ 255) ∧ w.cell? ⟨b, off + i, none⟩ = some (.int .u8 xs[i]) := by
  obtain ⟨b, off, cs, rfl, ⟨rfl, hr⟩, hc⟩ := h.at_ hi
  exact ⟨b, off, rfl, hr, by simpa [u8R] using hc 0 (by simp [u8R])⟩
theorem rU8 : Reads Tryz.prog 5 u8R := reads_u8 Tryz.underlying5 (by kernel_rfl)
theorem rBytes : Reads Tryz.prog 43 (slR u8R) := reads_slice Tryz.underlying43 (by kernel_rfl) (by decide) rU8

theorem i64_and255 (n : Int) : bits .and .i64 n 255 = n % 256 := by
  have h255 : (BitVec.ofInt 64 255).toNat = 2 ^ 8 - 1 := by decide
  have key : (BitVec.ofInt 64 n &&& BitVec.ofInt 64 255).toNat = (n % ((2 ^ 64 : Nat) : Int)).toNat % 2 ^ 8 := by
    rw [BitVec.toNat_and, BitVec.toNat_ofInt, h255, Nat.and_two_pow_sub_one_eq_mod]
  show IntKind.i64.wrap ((BitVec.ofInt 64 n &&& BitVec.ofInt 64 255).toNat : Nat) = n % 256
  rw [key, IntKind.wrap_i64]
  omega
theorem i64_and30 (n : Int) : bits .and .i64 n 1073741823 = n % 1073741824 := by
  have h255 : (BitVec.ofInt 64 1073741823).toNat = 2 ^ 30 - 1 := by decide
  have key : (BitVec.ofInt 64 n &&& BitVec.ofInt 64 1073741823).toNat = (n % ((2 ^ 64 : Nat) : Int)).toNat % 2 ^ 30 := by
    rw [BitVec.toNat_and, BitVec.toNat_ofInt, h255, Nat.and_two_pow_sub_one_eq_mod]
  show IntKind.i64.wrap ((BitVec.ofInt 64 n &&& BitVec.ofInt 64 1073741823).toNat : Nat) = n % 1073741824
  rw [key, IntKind.wrap_i64]
  omega

/-- the cursor lies in block g; its bytes lie in w0 -/
def Cur (w0 w : World) (g : Nat) : Prop := ∃ (A : Option Addr) (cap : Nat) (bs : List Int) (p : Nat) (h : Int), Sl u8R w0 (.slice A bs.length cap) bs ∧ Ext w0 w ∧ w0.heap.size ≤ g ∧
  Blk w g 108 [.slice A bs.length cap, .int .i64 p, .int .i64 h] ∧ p ≤ bs.length ∧ I64 h
/-- all old blocks stand but g -/
def Kept (g : Nat) (w w2 : World) : Prop := w.heap.size ≤ w2.heap.size ∧ ∀ b, b < w.heap.size → b ≠ g → w2.heap[b]? = w.heap[b]?
theorem Kept.refl (g : Nat) (w : World) : Kept g w w := ⟨Nat.le_refl _, fun _ _ _ => rfl⟩
theorem Kept.trans {g : Nat} {a b c : World} (h : Kept g a b) (k : Kept g b c) : Kept g a c := ⟨Nat.le_trans h.1 k.1, fun i hi hg => (k.2 i (Nat.lt_of_lt_of_le hi h.1) hg).trans (h.2 i hi hg)⟩
theorem Ext.kept {g : Nat} {a b : World} (h : Ext a b) : Kept g a b := ⟨h.size, fun _ hi _ => h.block hi⟩
theorem Kept.set (g k : Nat) (u : Value) (w : World) : Kept g w (w.setCell ⟨g, k, none⟩ u) := ⟨by simp, fun b _ hb => keep_setCell hb⟩
theorem Cur.keep {w0 w w2 : World} {g : Nat} (h : Cur w0 w g) (x : Ext w0 w2) (k : w2.heap[g]? = w.heap[g]?) : Cur w0 w2 g :=
  let ⟨A, cap, bs, p, hh, h1, _, h3, h4, h5⟩ := h; ⟨A, cap, bs, p, hh, h1, x, h3, h4.keep k, h5⟩
theorem Cur.ext {w0 w w2 : World} {g : Nat} (h : Cur w0 w g) (x : Ext w w2) : Cur w0 w2 g := by
  obtain ⟨A, cap, bs, p, hh, h1, h2, h3, h4, h5⟩ := h
  exact ⟨A, cap, bs, p, hh, h1, h2.trans x, h3, h4.ext x, h5⟩

set_option maxHeartbeats 400000 in
set_option maxRecDepth 20000 in
theorem spec_l1Byte (w0 w : World) (g : Nat) (hc : Cur w0 w g) :
    Calls Tryz.prog 153 #[.pointer (some ⟨g, 0, none⟩)] w fun e w2 => ∃ x, e = .returned (.int .i64 x) ∧ (0 ≤ x ∧ x ≤ 255) ∧ Cur w0 w2 g ∧ Kept g w w2 := by
  obtain ⟨A, cap, bs, p, h, hb, hx, hg, hB, hp, hI⟩ := hc
  have hm := hb.cap_
  have hI' := hI.out
  obtain ⟨c0, f0⟩ := hB.cells
  have c2 : w.cell? ⟨g, 2, none⟩ = some (.int .i64 h) := c0 2
  have f2 : w.frozen? ⟨g, 2, none⟩ = false := f0 2
  clear c0 f0
  obtain ⟨u, hu⟩ : ∃ u, u = wrap64 (wrap64 (h * 6364136223846793005) + 1442695040888963407) := ⟨_, rfl⟩
  have HU := hid hu
  have S1 : Blk (w.setCell ⟨g, 2, none⟩ (.int .i64 u)) g 108 [.slice A bs.length cap, .int .i64 p, .int .i64 u] := Blk.store (done := [.slice A bs.length cap, .int .i64 p]) (z := .int .i64 h) (rest := []) (k := 2) hB rfl (.int .i64 u)
  obtain ⟨W1, hW⟩ : ∃ W1, W1 = w.setCell ⟨g, 2, none⟩ (.int .i64 u) := ⟨_, rfl⟩
  have hu64 : I64 u := by rw [hu]; unfold I64 wrap64; omega
  have hx1 : Ext w0 W1 := by rw [hW]; exact hx.setCell (by simpa using hg) _
  have hk1 : Kept g w W1 := by rw [hW]; exact Kept.set _ _ _ _
  rw [← hW] at S1
  have HW := hid hW
  clear hu hW
  obtain ⟨c0, f0⟩ := S1.cells
  have d0 : ∀ z : ExtOf W1, z.1.cell? ⟨g, 0, none⟩ = some (.slice A bs.length cap) := fun z => z.2.cell (c0 0)
  have d1 : ∀ z : ExtOf W1, z.1.cell? ⟨g, 1, none⟩ = some (.int .i64 p) := fun z => z.2.cell (c0 1)
  have d2 : ∀ z : ExtOf W1, z.1.cell? ⟨g, 2, none⟩ = some (.int .i64 u) := fun z => z.2.cell (c0 2)
  clear c0 f0
  by_cases hlt : p < bs.length
  · obtain ⟨b, off, rfl, hbd, hcb⟩ := hb.u8 hlt
    have d3 : ∀ z : ExtOf W1, z.1.cell? ⟨b, off + p, none⟩ = some (.int .u8 bs[p]) := fun z => (hx1.trans z.2).cell hcb
    go_enter Tryz.func153, Tryz.ntmps153
    go_wp2_with fail
    rw [← HU.out, ← HW.out]
    refine wp_region_ext (by kernel_rfl) (by kernel_rfl) ?_
    repeat (go_big_quiet_step ((fail)))
    refine wpQuiet_nil ?_
    rintro w4 ⟨⟨_, x4⟩, rfl⟩
    have e0 : ∀ z : ExtOf w4, z.1.cell? ⟨g, 0, none⟩ = some (.slice (some ⟨b, off, none⟩) bs.length cap) := fun z => d0 ⟨_, x4.trans z.2⟩
    have e1 : ∀ z : ExtOf w4, z.1.cell? ⟨g, 1, none⟩ = some (.int .i64 p) := fun z => d1 ⟨_, x4.trans z.2⟩
    go_wp2_with fail
    refine wp_region_ext (by kernel_rfl) (by kernel_rfl) ?_
    repeat (go_big_quiet_step ((fail)))
    refine wpQuiet_nil ?_
    rintro w5 ⟨⟨_, x5⟩, rfl⟩
    have k0 : ∀ z : ExtOf w5, z.1.cell? ⟨g, 0, none⟩ = some (.slice (some ⟨b, off, none⟩) bs.length cap) := fun z => e0 ⟨_, x5.trans z.2⟩
    have k1 : ∀ z : ExtOf w5, z.1.cell? ⟨g, 1, none⟩ = some (.int .i64 p) := fun z => e1 ⟨_, x5.trans z.2⟩
    have k3 : ∀ z : ExtOf w5, z.1.cell? ⟨b, off + p, none⟩ = some (.int .u8 bs[p]) := fun z => d3 ⟨_, (x4.trans x5).trans z.2⟩
    go_wp2_with fail
    refine wp_region_ext (by kernel_rfl) (by kernel_rfl) ?_
    repeat (go_big_quiet_step ((fail)))
    refine wpQuiet_nil ?_
    rintro w6 ⟨⟨_, x6⟩, rfl⟩
    have S6 := S1.ext ((x4.trans x5).trans x6)
    have m1 := (S6.cells).1 1
    have n1 := (S6.cells).2 1
    have m1 : w6.cell? ⟨g, 1, none⟩ = some (.int .i64 p) := m1
    go_wp2
    go_ret
    refine ⟨_, rfl, ?_, ⟨_, _, bs, p + 1, u, hb, ((hx1.trans ((x4.trans x5).trans x6)).setCell (by simpa using hg) _), hg, ?_, hlt, hu64⟩, (hk1.trans ((x4.trans x5).trans x6).kept).trans (Kept.set _ _ _ _)⟩
    · rw [i64_and255]; omega
    · have := Blk.store (done := [.slice (some ⟨b, off, none⟩) bs.length cap]) (z := .int .i64 p) (rest := [.int .i64 u]) (k := 1) S6 rfl (.int .i64 ((p : Int) + 1))
      exact this
  · go_enter Tryz.func153, Tryz.ntmps153
    go_wp2_with fail
    rw [← HU.out, ← HW.out]
    refine wp_region_ext (by kernel_rfl) (by kernel_rfl) ?_
    repeat (go_big_quiet_step ((fail)))
    refine wpQuiet_nil ?_
    rintro w4 ⟨⟨_, x4⟩, rfl⟩
    have e0 : ∀ z : ExtOf w4, z.1.cell? ⟨g, 0, none⟩ = some (.slice A bs.length cap) := fun z => d0 ⟨_, x4.trans z.2⟩
    have e1 : ∀ z : ExtOf w4, z.1.cell? ⟨g, 1, none⟩ = some (.int .i64 p) := fun z => d1 ⟨_, x4.trans z.2⟩
    go_wp2_with fail
    refine wp_region_ext (by kernel_rfl) (by kernel_rfl) ?_
    repeat (go_big_quiet_step ((fail)))
    refine wpQuiet_nil ?_
    rintro w5 ⟨⟨_, x5⟩, rfl⟩
    go_wp2
    go_ret
    refine ⟨_, rfl, ?_, ⟨_, _, bs, p, u, hb, hx1.trans (x4.trans x5), hg, S1.ext (x4.trans x5), hp, hu64⟩, hk1.trans (x4.trans x5).kept⟩
    rw [i64_and255]; omega

set_option maxHeartbeats 400000 in
theorem spec_l1Below (w0 w : World) (g : Nat) (n : Int) (hn : 1 ≤ n ∧ n ≤ 256) (hc : Cur w0 w g) :
    Calls Tryz.prog 121 #[.pointer (some ⟨g, 0, none⟩), .int .i64 n] w fun e w2 => ∃ x, e = .returned (.int .i64 x) ∧ (0 ≤ x ∧ x < n) ∧ Cur w0 w2 g ∧ Kept g w w2 := by
  have hz : ¬ n = 0 := by omega
  go_enter Tryz.func121, Tryz.ntmps121
  go_wp2_with fail
  refine (spec_l1Byte w0 w g hc).mono ?_
  rintro e w2 ⟨x, rfl, hx, hc2, hk⟩
  go_wp2
  go_ret
  refine ⟨_, rfl, ?_, hc2, hk⟩
  first | exact ⟨Int.tmod_nonneg _ hx.1, Int.tmod_lt_of_pos _ (by omega)⟩ | exact ⟨Int.emod_nonneg _ (by omega), Int.emod_lt_of_pos _ (by omega)⟩

set_option maxHeartbeats 400000 in
theorem spec_l1Once (w0 w : World) (g : Nat) (n : Int) (hn : 1 ≤ n ∧ n ≤ 256) (hc : Cur w0 w g) :
    Calls Tryz.prog 110 #[.pointer (some ⟨g, 0, none⟩), .int .i64 n] w fun e w2 => ∃ x, e = .returned (.bool x) ∧ Cur w0 w2 g ∧ Kept g w w2 := by
  go_enter Tryz.func110, Tryz.ntmps110
  go_wp2_with fail
  refine (spec_l1Below w0 w g n hn hc).mono ?_
  rintro e w2 ⟨x, rfl, hx, hc2, hk⟩
  go_wp2
  go_ret
  exact ⟨_, rfl, hc2, hk⟩
end Go.Proofs.YtfieimmlcopbhaaGreatDoor

namespace Go.Proofs.YtfieimmlcopbhaaGreatDoor
open Go.RowKit

def sumSize (xs : List ByteArray) : Nat := (xs.map ByteArray.size).sum
theorem sumSize_take (xs : List ByteArray) (k : Nat) (h : k < xs.length) : sumSize (xs.take (k + 1)) = sumSize (xs.take k) + xs[k].size := by
  rw [List.take_succ_eq_append_getElem h]; unfold sumSize; rw [List.map_append, List.sum_append]; simp
theorem sumSize_le (xs : List ByteArray) (k : Nat) : sumSize (xs.take k) ≤ sumSize xs := by
  have h := List.take_append_drop k xs
  have : sumSize xs = sumSize (xs.take k) + sumSize (xs.drop k) := by
    unfold sumSize; rw [← List.sum_append, ← List.map_append, h]
  omega
theorem sumSize_at (xs : List ByteArray) (k : Nat) (h : k < xs.length) : sumSize (xs.take k) + xs[k].size ≤ sumSize xs := by
  rw [← sumSize_take xs k h]; exact sumSize_le _ _
theorem sumSize_mem {xs : List ByteArray} {x : ByteArray} (h : x ∈ xs) : x.size ≤ sumSize xs := by
  obtain ⟨i, hi, rfl⟩ := List.getElem_of_mem h
  have := sumSize_at xs i hi
  omega

theorem infoStr : (Tryz.prog.info? 9).map (fun i => (i.zero, i.size, i.bytes)) = some (some (.string ByteArray.empty), 1, 16) := by kernel_rfl

theorem strs_cells (w : World) (xs : List ByteArray) (h : ∀ x ∈ xs, x.size ≤ maxLen) : OwnCells strO w (xs.map Value.string) xs [] := by
  induction xs with
  | nil => exact .nil
  | cons x xs ih => exact ⟨[.string x], xs.map Value.string, [], [], rfl, rfl, ⟨⟨rfl, h x (List.mem_cons_self ..)⟩, rfl⟩, ih fun y hy => h y (List.mem_cons_of_mem _ hy)⟩
theorem Sl.strlen {w : World} {v : Value} {xs : List ByteArray} (h : Sl strR w v xs) : ∀ x ∈ xs, x.size ≤ maxLen := by
  intro x hx
  obtain ⟨A, cap, rfl, _⟩ := h.form
  obtain ⟨i, hi, rfl⟩ := List.getElem_of_mem hx
  obtain ⟨_, _, _, hb, _⟩ := h.str hi
  exact hb

set_option maxHeartbeats 400000 in
theorem eqStringS_c (v u : Value) (xs ys : List ByteArray) (w : World) (h : Sl strR w v xs) (k : Sl strR w u ys) :
    Calls Tryz.prog 99 #[v, u] w fun e w2 => e = .returned (.bool (eqB xs ys)) ∧ Ext w w2 := by
  obtain ⟨A, cap, rfl, hm⟩ := h.form
  obtain ⟨B, cap2, rfl, hm2⟩ := k.form
  by_cases hl : xs.length = ys.length
  · have hl' : ((xs.length : Int) != (ys.length : Int)) = false := by simp [hl]
    have HL := hid hl
    clear hl
    go_enter Tryz.func99, Tryz.ntmps99
    go_wp2
    go_loopw [5] (fun i wr => ∃ k2 : Nat, k2 ≤ xs.length ∧ i = .int .i64 k2 ∧ xs.take k2 = ys.take k2 ∧ Ext w wr) (fun i _ => xs.length - (intOf i).toNat)
    case atStart => exact ⟨0, Nat.zero_le _, rfl, by simp, Ext.refl _⟩
    case round =>
      obtain ⟨k2, hk, rfl, he, hx⟩ := hrel
      have HE := hid he
      clear he
      by_cases hlt : k2 < xs.length
      · have hlt2 : k2 < ys.length := by have := HL.out; omega
        obtain ⟨b, off, rfl, hi, hc⟩ := (h.mono hx).str hlt
        obtain ⟨b2, off2, rfl, hi2, hc2⟩ := (k.mono hx).str hlt2
        have hcz : ∀ z : ExtOf wr, z.1.cell? ⟨b, off + k2, none⟩ = _ := fun z => z.2.cell hc
        have hcz2 : ∀ z : ExtOf wr, z.1.cell? ⟨b2, off2 + k2, none⟩ = _ := fun z => z.2.cell hc2
        by_cases h0 : xs[k2] = ys[k2]
        · have h0' := str_eq h0
          have H0 := hid h0
          clear h0
          go_wp2_with fail
          refine wp_region_ext (by kernel_rfl) (by kernel_rfl) ?_
          repeat (go_big_quiet_step ((fail)))
          refine wpQuiet_nil ?_
          rintro w1 ⟨⟨_, x1⟩, rfl⟩
          go_wp2
          go_roundw
          case rel => exact ⟨k2 + 1, by omega, by go_num, take_snoc_eq hlt hlt2 H0.out HE.out, hx.trans x1⟩
          case measure => simp [intOf]; omega
        · have h0' := str_ne h0
          go_wp2_with fail
          refine wp_region_ext (by kernel_rfl) (by kernel_rfl) ?_
          repeat (go_big_quiet_step ((fail)))
          refine wpQuiet_nil ?_
          rintro w1 ⟨⟨_, x1⟩, rfl⟩
          go_wp2
          go_ret
          exact ⟨ret_bool (eqB_false (ne_of_at hlt hlt2 h0)).symm, hx.trans x1⟩
      · go_wp2
        go_ret
        exact ⟨ret_bool (eqB_true (eq_of_take hlt HL.out HE.out)).symm, hx⟩
  · have hl' : ((xs.length : Int) != (ys.length : Int)) = true := by simp; omega
    go_enter Tryz.func99, Tryz.ntmps99
    go_wp2
    go_ret
    exact ⟨ret_bool (eqB_false fun e => hl (by rw [e])).symm, Ext.refl _⟩
end Go.Proofs.YtfieimmlcopbhaaGreatDoor

namespace Go.Proofs.YtfieimmlcopbhaaGreatDoor
open Go.RowKit

/-- the two errors of strconv hold interface values -/
def EV (w : World) : Prop := (∃ tp p, w.cell? ⟨1, 0, none⟩ = some (.iface tp p)) ∧ ∃ tp p, w.cell? ⟨2, 0, none⟩ = some (.iface tp p)
theorem EV.mono {w w2 : World} (e : Ext w w2) (h : EV w) : EV w2 := by
  obtain ⟨⟨a, b, h1⟩, c, d, h2⟩ := h
  exact ⟨⟨a, b, e.cell h1⟩, c, d, e.cell h2⟩
structure Env (w : World) : Prop where
  T : Tab w
  M : ML w
  V : EV w
theorem Env.mono {w w2 : World} (e : Ext w w2) (h : Env w) : Env w2 := ⟨h.T.mono e, h.M.mono e, h.V.mono e⟩
end Go.Proofs.YtfieimmlcopbhaaGreatDoor

namespace Go.Proofs.YtfieimmlcopbhaaGreatDoor
open Go.RowKit
end Go.Proofs.YtfieimmlcopbhaaGreatDoor

namespace Go.Proofs.YtfieimmlcopbhaaGreatDoor
open Go.RowKit

def cmpB (a b : Bool) : Int := if a == b then 0 else if b then -1 else 1
/-- the first that is not 0 -/
def firstNZ : List Int → Int
  | [] => 0
  | x :: xs => if x ≠ 0 then x else firstNZ xs
def cmpV (x y : Verdict) : Int := firstNZ [cmpI x.a y.a, cmpI x.b y.b, cmpI x.time y.time, cmpB x.same y.same]

theorem cmpB_64 (a b : Bool) : I64 (cmpB a b) := by unfold I64 cmpB; split <;> (try split) <;> omega

set_option maxHeartbeats 400000 in
theorem cmp_isNaN (a : Int) (w : World) :
    Calls Tryz.prog 113 #[.int .i64 a] w fun e w2 => e = .returned (.bool false) ∧ w = w2 := by
  go_enter Tryz.func113, Tryz.ntmps113
  go_wp2
  all_goals go_ret
  all_goals (refine ⟨?_, rfl⟩; simp)

set_option maxHeartbeats 400000 in
theorem cmp_Compare (a b : Int) (w : World) :
    Calls Tryz.prog 68 #[.int .i64 a, .int .i64 b] w fun e w2 => e = .returned (.int .i64 (cmpI a b)) ∧ w2 = w := by
  go_enter Tryz.func68, Tryz.ntmps68
  go_wp2_with (go_at_call 113; refine (cmp_isNaN _ _).mono ?_; rintro e w2 ⟨rfl, rfl⟩)
  all_goals go_ret
  all_goals refine ⟨?_, rfl⟩
  all_goals (simp_all [cmpI]; try omega)

theorem firstNZ_append (l r : List Int) (h : ∀ x ∈ l, x = 0) : firstNZ (l ++ r) = firstNZ r := by
  induction l with
  | nil => rfl
  | cons x l ih => simp [firstNZ, h x (List.mem_cons_self ..), ih (fun y hy => h y (List.mem_cons_of_mem _ hy))]

theorem firstNZ_at (xs : List Int) (k : Nat) (hlt : k < xs.length) (hz : ∀ x ∈ xs.take k, x = 0) (h0 : ¬ xs[k] = 0) : firstNZ xs = xs[k] := by
  have e : xs = xs.take k ++ (xs[k] :: xs.drop (k + 1)) := by simp
  have e2 : firstNZ (xs.take k ++ (xs[k] :: xs.drop (k + 1))) = xs[k] := by
    rw [firstNZ_append _ _ hz]; simp [firstNZ, h0]
  rw [← e] at e2; exact e2
theorem firstNZ_all (xs : List Int) (k : Nat) (hk : ¬ k < xs.length) (hz : ∀ x ∈ xs.take k, x = 0) : firstNZ xs = 0 := by
  rw [List.take_of_length_le (by omega)] at hz
  have := firstNZ_append xs [] hz
  rw [List.append_nil] at this
  exact this

set_option maxHeartbeats 400000 in
theorem cmp_Or (v : Value) (xs : List Int) (w : World) (h : Sl intR w v xs) :
    Calls Tryz.prog 66 #[v] w fun e w2 => e = .returned (.int .i64 (firstNZ xs)) ∧ w = w2 := by
  obtain ⟨A, cap, rfl, hm⟩ := h.form
  go_enter Tryz.func66, Tryz.ntmps66
  go_wp2
  go_loop [5, 8] (fun t i => ∃ k : Nat, k ≤ xs.length ∧ i = .int .i64 k ∧ ∀ x ∈ xs.take k, x = 0) (fun _ i => xs.length - (intOf i).toNat)
  case atStart => exact ⟨0, Nat.zero_le _, rfl, by simp⟩
  case round =>
    obtain ⟨k, hk, rfl, hz⟩ := hrel
    have HZ := hid hz
    clear hz
    by_cases hlt : k < xs.length
    · obtain ⟨b, off, rfl, hb, hc⟩ := h.int hlt
      by_cases h0 : xs[k] = 0
      · have h0' : (xs[k] != 0) = false := by simp [h0]
        have H0 := hid h0
        clear h0
        go_wp2
        go_round
        case rel => exact ⟨k + 1, by omega, by go_num, by
          intro x hx
          rw [List.take_succ_eq_append_getElem hlt] at hx
          rcases List.mem_append.1 hx with hx | hx
          · exact HZ.out x hx
          · simp only [List.mem_singleton] at hx; rw [hx]; exact H0.out⟩
        case measure => simp [intOf]; omega
      · have h0' : (xs[k] != 0) = true := by simp [h0]
        go_wp2
        go_ret
        exact ⟨ret_int (firstNZ_at xs k hlt HZ.out h0).symm, rfl⟩
    · go_wp2
      go_ret
      exact ⟨ret_int (firstNZ_all xs k hlt HZ.out).symm, rfl⟩

end Go.Proofs.YtfieimmlcopbhaaGreatDoor

namespace Go.Proofs.YtfieimmlcopbhaaGreatDoor
open Go.RowKit

def okRow (n : Nat) (r : List Int) : Bool := r.length == n && decide (r.length ≤ 8) && r.all fun x => inB x 0 100
def width (m : List (List Int)) : Nat := (m.headD []).length
def okMat (m : List (List Int)) : Bool := m.all (okRow (width m)) && decide (m.length ≤ 8)
theorem width_eq (m : List (List Int)) (h : 0 < m.length) : width m = m[0].length := by
  cases m with
  | nil => simp at h
  | cons r m => rfl

theorem all_take {α : Type} (p : α → Bool) (xs : List α) (k : Nat) (hk : ¬ k < xs.length) (hz : ∀ x ∈ xs.take k, p x = true) : xs.all p = true := by
  rw [List.take_of_length_le (by omega)] at hz
  exact List.all_eq_true.2 hz
theorem all_not {α : Type} (p : α → Bool) (xs : List α) (k : Nat) (hk : k < xs.length) (h : ¬ p xs[k] = true) : xs.all p = false :=
  List.all_eq_false.2 ⟨_, List.getElem_mem hk, h⟩

end Go.Proofs.YtfieimmlcopbhaaGreatDoor

namespace Go.Proofs.YtfieimmlcopbhaaGreatDoor
open Go.RowKit

def idxI (x : Int) (xs : List Int) : Int := idxF (fun y => y == x) 0 xs
def hasI (x : Int) (xs : List Int) : Bool := xs.any fun y => y == x
theorem hasI_iff (x : Int) (xs : List Int) : hasI x xs = true ↔ x ∈ xs := by simp [hasI]
theorem idxI_nn (x : Int) (xs : List Int) : decide (0 ≤ idxI x xs) = hasI x xs := idxF_any _ _ _
theorem idxF_lt {α : Type} (p : α → Bool) (xs : List α) (k : Nat) : -1 ≤ idxF p k xs ∧ idxF p k xs < k + xs.length := by
  induction xs generalizing k with
  | nil => simp [idxF]; omega
  | cons x xs ih =>
    simp only [idxF, List.length_cons]
    split
    · omega
    · have := ih (k + 1); omega
theorem idxI_bd (x : Int) (xs : List Int) : -1 ≤ idxI x xs ∧ idxI x xs < xs.length := by
  have := idxF_lt (fun y => y == x) xs 0
  unfold idxI; omega

end Go.Proofs.YtfieimmlcopbhaaGreatDoor

namespace Go.Proofs.YtfieimmlcopbhaaGreatDoor
open Go.RowKit

theorem tab_mem {P : Program} {w : World} {name : String} {k : IntKind} {zs : List Int} {t e : TypeId} {n g : Nat}
    (hg : P.globalNamed name = some g) (hty : (P.globals[g]?).map (·.type) = some t) (ht : P.underlying t = some (.array n e)) (he : P.underlying e = some (.int k)) (hce : P.cellsOf e = 1) (hct : P.cellsOf t = n) :
    ∀ {l : List (String × DataW Unit)} {ps : List MemPlace}, DataW.LaidVars P w l ps → (name, Go.Lib.tabData k zs) ∈ l → Go.Lib.TabIs P w name k zs
  | [], _, _, hm => by cases hm
  | (n2, d2) :: r, ps, h, hm => by
    obtain ⟨g', t', cs, fuel, p, q, hg', ht', hvar, hd, h5, _⟩ := h
    rcases List.mem_cons.1 hm with hm | hm
    · injection hm with e1 e2
      subst e1
      subst e2
      obtain rfl := Option.some.inj (hg.symm.trans hg')
      obtain rfl := Option.some.inj (hty.symm.trans ht')
      unfold Go.Lib.TabIs
      rw [hvar, ← Go.Lib.cells_of_tab ht he hce hct hd]
    · exact tab_mem hg hty ht he hce hct h5 hm
end Go.Proofs.YtfieimmlcopbhaaGreatDoor

namespace Go.Proofs.YtfieimmlcopbhaaGreatDoor
open Go.RowKit

theorem Cur.base {w0 w : World} {g : Nat} (h : Cur w0 w g) : Ext w0 w ∧ w0.heap.size ≤ g ∧ g < w.heap.size := by
  obtain ⟨A, cap, bs, p, hh, h1, h2, h3, h4, h5⟩ := h
  exact ⟨h2, h3, block_lt h4⟩
theorem Bld.kept {α : Type} {R : RepO α} {w w2 : World} {base g : Nat} {e : TypeId} {v : Value} {xs : List α} {F : List Nat} (h : Bld R w base e v xs F) (hg : g < base) (k : Kept g w w2) : Bld R w2 base e v xs F :=
  h.keep fun b hb hl => k.2 b hl (by omega)
theorem OwnSl.kept {α : Type} {R : RepO α} {w w2 : World} {g : Nat} {v : Value} {xs : List α} {F : List Nat} (h : OwnSl R w v xs F) (hg : g ∉ F) (k : Kept g w w2) : OwnSl R w2 v xs F :=
  h.keep fun b hb => k.2 b (h.lt b hb) (fun e => hg (e ▸ hb))
/-- an append; what it leaves, block by block -/
theorem wpList_app1g {P : Program} {α : Type} {R : RepO α} {ops : Array Oper} {rest : List Oper} {o : Oper} {a : Act} {W : World} {Q : Exit → Act → World → Prop} {t e : TypeId} {bytes : Nat} (E : ElemT P t e R.n bytes) (hsz : 0 < R.n)
    (hgd : o.guard = none) (s x : Operand) (ho : o.op = .call { callee := .builtin .append, args := #[s, x], argTypes := #[t, t] })
    {base : Nat} {v : Value} {xs : List α} {F : List Nat} (hb : Bld R W base e v xs F) (hs : a.eval s = v) {c : Array Value} {T : TypeId} (g k : Nat) (hx : a.eval x = .slice (some ⟨g, 0, none⟩) 1 k) (hg : g = W.heap.size)
    (h1 : ∀ u ∈ c.toList, u.oneCell' = true) {y : α} {G : List Nat} (hy : R.own W c.toList y G) (hG : (∀ b ∈ G, b ∉ F ∧ v.ownBlock ≠ some b) ∧ G.Nodup ∧ ∀ b ∈ G, base ≤ b)
    (hbytes : xs.length + 1 ≤ 1099511627776) (hby : bytes ≤ 128) (hbase : base ≤ W.heap.size)
    (h : ∀ v' w', Bld R w' base e v' (xs ++ [y]) (F ++ G) → (∀ w0 : World, w0.heap.size ≤ base → Ext w0 W → Ext w0 w') → W.heap.size ≤ w'.heap.size → (∀ b, b < base → w'.heap[b]? = W.heap[b]?) → wpList P ops Q rest (a.put o.dst v') w') :
    wpList P ops Q (o :: rest) a (W.alloc (.cells c T)) := by
  obtain ⟨ht, i, z, hi, hz, hsize, hby2, hzs⟩ := E
  have x1 : Ext W (W.alloc (.cells c T)) := (Ext.refl W).alloc _
  have hb1 := hb.ext x1
  have hl := hb1.lt
  obtain ⟨cs, b1, b2, b3, b4, b5⟩ := hb1
  have hy1 : R.own (W.alloc (.cells c T)) c.toList y G := R.own_keep (fun b hb => x1.block (R.own_lt hy b hb)) hy
  refine wpList_append_own_at (W.alloc (.cells c T)) hgd s x t ho base e i z R.n bytes ht hi hz hsize hby2 hzs hsz v xs.length cs hs b1 ⟨g, 0, none⟩ 1 k c.toList hx (by rw [R.len (R.own_rd hy), Nat.one_mul]) (fun j u hj => ?_) h1
    (by unfold maxLen; omega) (Nat.le_trans (Nat.mul_le_mul hbytes hby) (by decide)) (Nat.le_trans hbase x1.size) ?_
  · subst hg
    have : (W.alloc (.cells c T)).cell? ⟨W.heap.size, j, none⟩ = c[j]? := ((Ext.refl (W.alloc (.cells c T))).box).1 j
    rw [add_eq, Nat.zero_add, this]
    simpa using hj
  · intro v' w' hown hgr _ hat
    obtain ⟨h5, h6⟩ := bld_grown hl b2 b3 b4 b5 hy1 hG hown hgr hat
    refine h _ _ h5 (fun w0 h7 h8 => h6 w0 h7 (h8.trans x1)) (Nat.le_trans x1.size hgr.size) fun b hb => ?_
    have hbW : b < W.heap.size := by omega
    rw [hgr.block b (Nat.lt_of_lt_of_le hbW x1.size) (fun e => by have := (hl.2 b e.symm).2; omega), x1.block hbW]

set_option maxHeartbeats 400000 in
theorem spec_l1PickInt (w0 w : World) (g : Nat) (v : Value) (xs : List Int) (hl : 1 ≤ xs.length ∧ xs.length ≤ 256) (hc : Cur w0 w g) (hs : ∀ w2, Kept g w w2 → Sl intR w2 v xs) :
    Calls Tryz.prog 144 #[.pointer (some ⟨g, 0, none⟩), v] w fun e w2 => ∃ x, e = .returned (.int .i64 x) ∧ I64 x ∧ Cur w0 w2 g ∧ Kept g w w2 := by
  obtain ⟨A, cap, rfl, hm⟩ := (hs w (Kept.refl _ _)).form
  go_enter Tryz.func144, Tryz.ntmps144
  go_wp2_with fail
  refine (spec_l1Below w0 w g xs.length (by omega) hc).mono ?_
  rintro e w2 ⟨x, rfl, hx, hc2, hk⟩
  obtain ⟨j, rfl⟩ : ∃ j : Nat, x = j := ⟨x.toNat, by omega⟩
  have hj : j < xs.length := by omega
  obtain ⟨b, off, rfl, hI, hcell⟩ := (hs w2 hk).int hj
  go_wp2
  go_ret
  exact ⟨_, rfl, hI, hc2, hk⟩

set_option maxHeartbeats 400000 in
set_option maxRecDepth 20000 in
theorem spec_l1New (w : World) (v : Value) (bs : List Int) (h : Sl u8R w v bs) :
    Calls Tryz.prog 65 #[v] w fun e w2 => e = .returned (.pointer (some ⟨w.heap.size, 0, none⟩)) ∧ Cur w w2 w.heap.size ∧ Ext w w2 := by
  obtain ⟨A, cap, rfl, hm⟩ := h.form
  go_enter Tryz.func65, Tryz.ntmps65
  go_wp2
  go_loop [3, 4] (fun x i => ∃ (k : Nat) (u : Int), k ≤ bs.length ∧ i = .int .i64 k ∧ x = .int .i64 u ∧ I64 u) (fun _ i => bs.length - (intOf i).toNat)
  case atStart => exact ⟨0, _, Nat.zero_le _, rfl, rfl, by unfold I64; first | omega | (unfold wrap64; omega)⟩
  case round =>
    obtain ⟨k, u, hk, rfl, rfl, hu⟩ := hrel
    have hu' := hu.out
    by_cases hlt : k < bs.length
    · by_cases h4 : k < 4000
      · obtain ⟨b, off, rfl, hbd, hcb⟩ := h.u8 hlt
        go_wp2
        go_round
        case rel => exact ⟨k + 1, _, by omega, by go_num, rfl, by rw [i64_and30]; unfold I64; omega⟩
        case measure => simp [intOf]; omega
      · go_wp2
        go_ret
        exact ⟨rfl, ⟨A, cap, bs, 0, u, h, (Ext.refl _).alloc _, Nat.le_refl _, Blk.new w _ _, Nat.zero_le _, hu⟩, (Ext.refl _).alloc _⟩
    · go_wp2
      go_ret
      exact ⟨rfl, ⟨A, cap, bs, 0, u, h, (Ext.refl _).alloc _, Nat.le_refl _, Blk.new w _ _, Nat.zero_le _, hu⟩, (Ext.refl _).alloc _⟩

theorem lit_kept {w w2 : World} {g : Nat} {T : TypeId} {xs : List Int} {cs : Array Value} (hcs : cs.toList = xs.map (Value.int .i64)) (h : ∀ x ∈ xs, I64 x) (hl : xs.length ≤ maxLen) (hg : g < w.heap.size) (k : Kept g (w.alloc (.cells cs T)) w2) :
    OwnSl intO w2 (.slice (some ⟨w.heap.size, 0, none⟩) xs.length xs.length) xs [w.heap.size] := by
  have hb := Blk.new w T cs
  rw [hcs] at hb
  exact (OwnSl.of_blk hb hl (ints_cells _ _ h)).kept (by simp; omega) k

end Go.Proofs.YtfieimmlcopbhaaGreatDoor

namespace Go.Proofs.YtfieimmlcopbhaaGreatDoor
open Go.RowKit

theorem elemStrC : ElemT Tryz.prog 22 9 strO.n 16 := by
  obtain ⟨i, h1, h2, h3, h4⟩ := info_parts infoStr
  exact ⟨Tryz.underlying22, i, _, h1, h2, h3, h4, rfl⟩
theorem one_strC (s : ByteArray) : ∀ u ∈ (#[Value.string s] : Array Value).toList, u.oneCell' = true := by simp [Value.oneCell']
theorem own_strC (W : World) (s : ByteArray) (h : s.size ≤ maxLen) : strO.own W (#[Value.string s] : Array Value).toList s [] := ⟨⟨rfl, h⟩, rfl⟩

theorem drop_len (s : ByteArray) (j : Nat) : (s.data.toList.drop j).length = s.size - j := by
  rw [List.length_drop]
  have e : s.data.toList.length = s.size := Array.length_toList
  omega
theorem no_step {s : ByteArray} {c : UInt8} {j k : Nat} (hjk : j ≤ k) (hk : k < s.size) (hc : ¬ s[k] = c) (hn : c ∉ (s.data.toList.drop j).take (k - j)) : c ∉ (s.data.toList.drop j).take (k + 1 - j) := by
  have e1 : k + 1 - j = (k - j) + 1 := by omega
  have hl : k - j < (s.data.toList.drop j).length := by rw [drop_len]; omega
  have e2 : (s.data.toList.drop j)[k - j] = s[k] := by
    have h9 : (s.data.toList.drop j)[k - j]? = some s[k] := by
      rw [List.getElem?_drop, show j + (k - j) = k by omega]
      exact Go.Lib.data_getElem? s k hk
    rw [List.getElem?_eq_getElem hl] at h9
    exact Option.some.inj h9
  rw [e1, List.take_succ_eq_append_getElem hl, List.mem_append, List.mem_singleton, e2]
  rintro (h | h)
  · exact hn h
  · exact hc h.symm
theorem pcs_hit {s : ByteArray} {c : UInt8} {j k : Nat} (hjk : j ≤ k) (hk : k < s.size) (hc : s[k] = c) (hn : c ∉ (s.data.toList.drop j).take (k - j)) : pcs c (bs (s.data.toList.drop j)) = s.extract j k :: pcs c (bs (s.data.toList.drop (k + 1))) := by
  have hl : k < s.data.toList.length := by rw [Array.length_toList]; exact hk
  have e1 : s.data.toList.drop j = (s.data.toList.drop j).take (k - j) ++ c :: s.data.toList.drop (k + 1) := by
    conv => lhs; rw [← List.take_append_drop (k - j) (s.data.toList.drop j)]
    rw [List.drop_drop, show j + (k - j) = k by omega, List.drop_eq_getElem_cons hl]
    have : s.data.toList[k] = c := hc
    rw [this]
  rw [pcs_bs, pcs_bs]
  conv => lhs; rw [e1]
  rw [cutL_hit hn, List.map_cons, Go.Lib.extract_eq]; rfl
theorem pcs_end {s : ByteArray} {c : UInt8} {j k : Nat} (hk : ¬ k < s.size) (hn : c ∉ (s.data.toList.drop j).take (k - j)) : pcs c (bs (s.data.toList.drop j)) = [s.extract j s.size] := by
  have hl := drop_len s j
  rw [List.take_of_length_le (by rw [hl]; omega)] at hn
  rw [pcs_bs, cutL_all hn, Go.Lib.extract_eq, List.take_of_length_le (by rw [hl]; omega)]; rfl

set_option maxHeartbeats 400000 in
set_option maxRecDepth 20000 in
theorem spec_l2Cut (s : ByteArray) (c : UInt8) (w : World) (hs : s.size ≤ 1048600) :
    Calls Tryz.prog 52 #[.string s, .int .u8 c.toNat] w fun e w2 => ∃ v F, e = .returned v ∧ OwnSl strO w2 v (pcs c s) F ∧ NewF w F ∧ Ext w w2 := by
  have H0 := hid (show pcs c (bs (s.data.toList.drop 0)) = pcs c s by rw [List.drop_zero, bs_mk])
  have HM := hid (pcs_len c s)
  go_enter Tryz.func52, Tryz.ntmps52
  go_wp2
  go_loopw [5, 6, 7] (fun o f i wr => ∃ (j k : Nat) (ps : List ByteArray), j ≤ k ∧ k ≤ s.size ∧ f = .int .i64 j ∧ i = .int .i64 k ∧ Bld strO wr w.heap.size 9 o ps [] ∧ Ext w wr ∧ Hid (ps ++ pcs c (bs (s.data.toList.drop j)) = pcs c s) ∧ Hid (c ∉ (s.data.toList.drop j).take (k - j))) (fun _ _ i _ => s.size - (intOf i).toNat)
  case atStart => exact ⟨0, 0, [], Nat.le_refl _, Nat.zero_le _, rfl, rfl, Bld.lit w (Nat.le_refl _) _, (Ext.refl _).alloc _, hid (by rw [List.nil_append]; exact H0.out), hid (by simp)⟩
  case round =>
    obtain ⟨j, k, ps, hjk, hk, rfl, rfl, hB, hx, hP, hN⟩ := hrel
    have hbs := hx.size
    have hpl : ps.length ≤ s.size + 1 := by
      have e := congrArg List.length hP.out
      rw [List.length_append] at e
      have := HM.out
      omega
    by_cases hlt : k < s.size
    · have hb := s[k].toNat_lt
      by_cases hc : s[k] = c
      · have h1 : ((s[k].toNat : Int) == (c.toNat : Int)) = true := by rw [hc]; simp
        have hz : (s.extract j k).size ≤ maxLen := by rw [ByteArray.size_extract]; unfold maxLen; omega
        have HZ := hid hz
        have hnew := hid (show (ps ++ [s.extract j k]) ++ pcs c (bs (s.data.toList.drop (k + 1))) = pcs c s by rw [List.append_assoc, List.singleton_append, ← pcs_hit hjk hlt hc hN.out]; exact hP.out)
        clear hc hz
        go_wp2_with (at_builtin; refine wpList_app1 elemStrC (by decide) rfl _ _ rfl hB rfl wr.heap.size 1 rfl rfl (one_strC _) (own_strC _ _ HZ.out) fresh_nil (by omega) (by decide) hbs ?_; intro v9 w9 hB9 hE9)
        go_roundw
        case rel => exact ⟨k + 1, k + 1, ps ++ [s.extract j k], Nat.le_refl _, by omega, by go_num, by go_num, hB9, hE9 _ (Nat.le_refl _) hx, hnew, hid (by simp)⟩
        case measure => simp [intOf]; omega
      · have h1 : ((s[k].toNat : Int) == (c.toNat : Int)) = false := by
          rw [beq_eq_false_iff_ne]
          intro e
          exact hc (UInt8.toNat_inj.1 (by omega))
        have hnew := hid (no_step hjk hlt hc hN.out)
        clear hc
        go_wp2
        go_roundw
        case rel => exact ⟨j, k + 1, ps, by omega, by omega, rfl, by go_num, hB, hx, hP, hnew⟩
        case measure => simp [intOf]; omega
    · have hz : (s.extract j s.size).size ≤ maxLen := by rw [ByteArray.size_extract]; unfold maxLen; omega
      have HZ := hid hz
      have hnew := hid (show ps ++ [s.extract j s.size] = pcs c s by rw [← pcs_end hlt hN.out]; exact hP.out)
      clear hz
      go_wp2_with (at_builtin; refine wpList_app1 elemStrC (by decide) rfl _ _ rfl hB rfl wr.heap.size 1 rfl rfl (one_strC _) (own_strC _ _ HZ.out) fresh_nil (by omega) (by decide) hbs ?_; intro v9 w9 hB9 hE9)
      go_ret
      rw [hnew.out] at hB9
      obtain ⟨F, hF, hN, hb⟩ := hB9.done
      exact ⟨_, F, rfl, hF, ⟨hN, hb⟩, hE9 _ (Nat.le_refl _) hx⟩
theorem spec_l2CutN (s : ByteArray) (c : UInt8) (n : Int) (w : World) (hn : n = c.toNat) (hs : s.size ≤ 1048600) :
    Calls Tryz.prog 52 #[.string s, .int .u8 n] w fun e w2 => ∃ v F, e = .returned v ∧ OwnSl strO w2 v (pcs c s) F ∧ NewF w F ∧ Ext w w2 := by
  subst hn
  exact spec_l2Cut s c w hs
end Go.Proofs.YtfieimmlcopbhaaGreatDoor

namespace Go.Proofs.YtfieimmlcopbhaaGreatDoor
open Go.RowKit

theorem xJoin : Builder.Extra Tryz.prog lShJoin_ren :=
  { sizeBuilder := by kernel_rfl, liesBuilder := by kernel_rfl, t5 := Tryz.underlying5, a5 := Tryz.isAgg5, z5 := Tryz.sizeOf5, v5 := Tryz.zeroValue5, infoByte := by kernel_rfl, cellsByte := by kernel_rfl, sizeByte := by kernel_rfl, neB5 := by decide }

/-- texts joined by a separator -/
def joinS (xs : List ByteArray) (sep : ByteArray) : ByteArray := ⟨(Go.Lib.join (xs.map (·.data.toList)) sep.data.toList).toArray⟩
theorem joinS_nil (sep : ByteArray) : joinS [] sep = ⟨#[]⟩ := rfl
theorem joinS_data (xs : List ByteArray) (sep : ByteArray) : (joinS xs sep).data.toList = Go.Lib.join (xs.map (·.data.toList)) sep.data.toList := by unfold joinS; simp
theorem joinTail_append (sep : List UInt8) (a b : List (List UInt8)) : Go.Lib.joinTail sep (a ++ b) = Go.Lib.joinTail sep a ++ Go.Lib.joinTail sep b := by unfold Go.Lib.joinTail; simp
theorem joinS_one (x sep : ByteArray) : joinS [x] sep = x := by
  apply Go.WideShapes.bytes_inj
  rw [joinS_data]
  exact Go.Lib.join_one _ _
theorem joinS_snoc (xs : List ByteArray) (x sep : ByteArray) (h : xs ≠ []) : joinS (xs ++ [x]) sep = joinS xs sep ++ sep ++ x := by
  cases xs with
  | nil => exact absurd rfl h
  | cons y ys =>
    apply Go.WideShapes.bytes_inj
    simp only [joinS_data, ByteArray.data_append, Array.toList_append, List.map_cons, List.cons_append, List.map_append, Go.Lib.join_cons, joinTail_append]
    simp [Go.Lib.joinTail]
/-- the next text: with the separator ahead, if it is not the first -/
theorem joinS_step (xs : List ByteArray) (k : Nat) (h : k < xs.length) (sep : ByteArray) : joinS (xs.take (k + 1)) sep = if 0 < k then joinS (xs.take k) sep ++ sep ++ xs[k] else xs[k] := by
  rw [List.take_succ_eq_append_getElem h]
  split
  · rename_i hk
    rw [joinS_snoc _ _ _ (List.ne_nil_of_length_pos (by rw [List.length_take]; omega))]
  · have : k = 0 := by omega
    subst this
    simp [joinS_one]
theorem joinS_size (B : Nat) (sep : ByteArray) : ∀ (xs : List ByteArray), (∀ x ∈ xs, x.size ≤ B) → (joinS xs sep).size ≤ xs.length * (B + sep.size) := by
  intro xs hx
  have h : ∀ k, k ≤ xs.length → (joinS (xs.take k) sep).size ≤ k * (B + sep.size) := by
    intro k
    induction k with
    | zero => intro _; rw [List.take_zero, joinS_nil]; exact Nat.zero_le _
    | succ k ih =>
      intro hk
      rw [joinS_step xs k (by omega), Nat.add_mul, Nat.one_mul]
      have h1 := ih (by omega)
      have h2 := hx xs[k] (List.getElem_mem _)
      split
      · rw [ByteArray.size_append, ByteArray.size_append]; omega
      · have := Nat.zero_le (k * (B + sep.size)); omega
  have := h xs.length (Nat.le_refl _)
  rwa [List.take_length] at this

/-- 'a + b' on strings -/
theorem run_cat {P : Program} (t : TypeId) (a b : ByteArray) (h : a.size + b.size ≤ 9223372036854775807) (W : World) : (binOp .add t (.string a) (.string b)).run P W = .ok (.string (a ++ b)) W := by
  have h2 := run_string_add_sum (P := P) (w := W) a b h
  simp only [binOp, h2]
theorem strings_Join_c (v : Value) (xs : List ByteArray) (sep : ByteArray) (w : World) (h : Sl strR w v xs) (hN : xs.length ≤ 140737488355328) (hl : (joinS xs sep).size ≤ 140737488355328) :
    Calls Tryz.prog 118 #[v, .string sep] w fun e w2 => e = .returned (.string (joinS xs sep)) ∧ Ext w w2 := by
  obtain ⟨A, cap, rfl, hm, hi⟩ := h
  cases xs with
  | nil => exact (Any.strings_Join_none lShJoin xJoin A cap sep w).mono fun _ _ ⟨he, hw⟩ => ⟨he, hw ▸ Ext.refl _⟩
  | cons x r =>
    obtain ⟨b, off, _, rfl, _, _⟩ := hi 0 (by simp)
    have hc : ∀ (j : Nat) y, (x :: r)[j]? = some y → w.cell? ⟨b, off + j, none⟩ = some (.string y) := fun j y hj => by
      obtain ⟨hlt, rfl⟩ := List.getElem?_eq_some_iff.1 hj
      obtain ⟨b2, off2, cs, e, ⟨rfl, _⟩, h2⟩ := hi j hlt
      injection e with e
      injection e with e1 e2
      subst e1
      subst e2
      simpa [strR] using h2 0 (by simp [strR])
    have hb := World.block_lt_of_cell? _ _ (hc 0 x rfl)
    exact (Any.strings_Join lShJoin xJoin b off cap (x :: r) sep w hc hb hN hm.1 (by rw [← joinS_data, Array.length_toList]; exact hl)).mono fun _ _ ⟨he, hw⟩ => ⟨he, hw⟩

end Go.Proofs.YtfieimmlcopbhaaGreatDoor

namespace Go.Proofs.YtfieimmlcopbhaaGreatDoor
open Go.RowKit
end Go.Proofs.YtfieimmlcopbhaaGreatDoor

namespace Go.Proofs.YtfieimmlcopbhaaGreatDoor
open Go.RowKit

theorem bless_irr (l : List UInt8) : Op.bytesLess l l = false := by
  induction l with
  | nil => rfl
  | cons a l ih => simp [Op.bytesLess, ih]
def cmpS (a b : ByteArray) : Int := if Op.bytesLess a.toList b.toList then -1 else if a.toList == b.toList then 0 else 1
theorem toList_inj {a b : ByteArray} (h : (a.toList == b.toList) = true) : a = b := by
  cases Classical.em (a = b) with
  | inl e => exact e
  | inr e => rw [str_ne e] at h; cases h
theorem cmpS_lt {a b : ByteArray} (h : Op.bytesLess a.toList b.toList = true) : cmpS a b = -1 := by unfold cmpS; rw [h]; rfl
theorem cmpS_gt {a b : ByteArray} (h : Op.bytesLess a.toList b.toList = false) (h2 : (a.toList == b.toList) = false) : cmpS a b = 1 := by unfold cmpS; rw [h, h2]; rfl
theorem cmpS_eq {a b : ByteArray} (h : (a.toList == b.toList) = true) : cmpS a b = 0 := by
  have e := toList_inj h
  subst e
  unfold cmpS; rw [bless_irr, h]; rfl
theorem cmpS_zero {a b : ByteArray} : cmpS a b = 0 ↔ a = b := by
  refine ⟨fun h => ?_, fun h => cmpS_eq (str_eq h)⟩
  unfold cmpS at h
  split at h
  · omega
  · split at h
    · rename_i e; exact toList_inj e
    · omega
theorem cmpS_64 (a b : ByteArray) : I64 (cmpS a b) := by unfold I64 cmpS; split <;> (try split) <;> omega
def cmpSL : List ByteArray → List ByteArray → Int
  | [], [] => 0
  | [], _ :: _ => -1
  | _ :: _, [] => 1
  | x :: xs, y :: ys => if cmpS x y = 0 then cmpSL xs ys else cmpS x y
theorem cmpSL_skip : ∀ {xs ys : List ByteArray} {k : Nat}, xs.take k = ys.take k → k ≤ xs.length → k ≤ ys.length → cmpSL xs ys = cmpSL (xs.drop k) (ys.drop k)
  | _, _, 0, _, _, _ => rfl
  | [], _, k + 1, _, h, _ => by simp at h
  | _ :: _, [], k + 1, _, _, h => by simp at h
  | x :: xs, y :: ys, k + 1, h, h1, h2 => by
    simp only [List.take_succ_cons, List.cons.injEq] at h
    rw [cmpSL, if_pos (cmpS_zero.2 h.1), List.drop_succ_cons, List.drop_succ_cons]
    exact cmpSL_skip h.2 (by simpa using h1) (by simpa using h2)
theorem cmpSL_at {xs ys : List ByteArray} {k : Nat} (h1 : k < xs.length) (h2 : k < ys.length) (h : xs.take k = ys.take k) (hne : ¬ cmpS xs[k] ys[k] = 0) : cmpSL xs ys = cmpS xs[k] ys[k] := by
  rw [cmpSL_skip h (by omega) (by omega), List.drop_eq_getElem_cons h1, List.drop_eq_getElem_cons h2, cmpSL, if_neg hne]
theorem cmpSL_end {xs ys : List ByteArray} {k : Nat} (hk1 : k ≤ xs.length) (hk2 : k ≤ ys.length) (h : xs.take k = ys.take k) (he : ¬ (k < xs.length ∧ k < ys.length)) : cmpSL xs ys = cmpI xs.length ys.length := by
  rw [cmpSL_skip h hk1 hk2]
  by_cases h1 : k < xs.length
  · have h2 : k = ys.length := by omega
    rw [List.drop_eq_getElem_cons h1, show ys.drop k = [] from List.drop_of_length_le (by omega), cmpSL]
    unfold cmpI; rw [if_neg (by omega), if_pos (by omega)]
  · rw [show xs.drop k = [] from List.drop_of_length_le (by omega)]
    by_cases h2 : k < ys.length
    · rw [List.drop_eq_getElem_cons h2, cmpSL]
      unfold cmpI; rw [if_pos (by omega)]
    · rw [show ys.drop k = [] from List.drop_of_length_le (by omega), cmpSL]
      unfold cmpI; rw [if_neg (by omega), if_neg (by omega)]
theorem cmpSL_zero : ∀ {xs ys : List ByteArray}, cmpSL xs ys = 0 ↔ xs = ys
  | [], [] => by simp [cmpSL]
  | [], _ :: _ => by simp [cmpSL]
  | _ :: _, [] => by simp [cmpSL]
  | x :: xs, y :: ys => by
    rw [cmpSL]
    split
    · rename_i h; rw [cmpSL_zero]; simp [cmpS_zero.1 h]
    · rename_i h
      refine ⟨fun e => absurd e h, fun e => ?_⟩
      injection e with e1 e2
      exact absurd (cmpS_zero.2 e1) h
theorem cmpSL_64 : ∀ (xs ys : List ByteArray), I64 (cmpSL xs ys)
  | [], [] => by simp [cmpSL, I64]
  | [], _ :: _ => by simp [cmpSL, I64]
  | _ :: _, [] => by simp [cmpSL, I64]
  | x :: xs, y :: ys => by
    rw [cmpSL]
    split
    · exact cmpSL_64 xs ys
    · exact cmpS_64 _ _

set_option maxHeartbeats 400000 in
theorem cmp_isNaN_s (a : ByteArray) (w : World) :
    Calls Tryz.prog 146 #[.string a] w fun e w2 => e = .returned (.bool false) ∧ w = w2 := by
  go_enter Tryz.func146, Tryz.ntmps146
  go_wp2
  go_ret
  exact ⟨rfl, rfl⟩
set_option maxHeartbeats 400000 in
theorem cmp_Compare_s (a b : ByteArray) (w : World) :
    Calls Tryz.prog 114 #[.string a, .string b] w fun e w2 => e = .returned (.int .i64 (cmpS a b)) ∧ w = w2 := by
  cases hl : Op.bytesLess a.toList b.toList with
  | true =>
    have H := hid (cmpS_lt hl)
    go_enter Tryz.func114, Tryz.ntmps114
    go_wp2_with (go_at_call 146; refine (cmp_isNaN_s _ _).mono ?_; rintro e w2 ⟨rfl, rfl⟩)
    go_ret
    exact ⟨ret_int H.out.symm, rfl⟩
  | false =>
    cases he : (a.toList == b.toList) with
    | true =>
      have H := hid (cmpS_eq he)
      go_enter Tryz.func114, Tryz.ntmps114
      go_wp2_with (go_at_call 146; refine (cmp_isNaN_s _ _).mono ?_; rintro e w2 ⟨rfl, rfl⟩)
      go_ret
      exact ⟨ret_int H.out.symm, rfl⟩
    | false =>
      have H := hid (cmpS_gt hl he)
      go_enter Tryz.func114, Tryz.ntmps114
      go_wp2_with (go_at_call 146; refine (cmp_isNaN_s _ _).mono ?_; rintro e w2 ⟨rfl, rfl⟩)
      go_ret
      exact ⟨ret_int H.out.symm, rfl⟩

set_option maxHeartbeats 400000 in
theorem slices_Compare_s (v u : Value) (xs ys : List ByteArray) (w : World) (h : Sl strR w v xs) (k : Sl strR w u ys) :
    Calls Tryz.prog 69 #[v, u] w fun e w2 => e = .returned (.int .i64 (cmpSL xs ys)) ∧ w = w2 := by
  obtain ⟨A, cap, rfl, hm⟩ := h.form
  obtain ⟨B, cap2, rfl, hm2⟩ := k.form
  go_enter Tryz.func69, Tryz.ntmps69
  go_wp2
  go_loop [11] (fun i => ∃ j : Nat, j ≤ xs.length ∧ j ≤ ys.length ∧ i = .int .i64 j ∧ xs.take j = ys.take j) (fun i => xs.length - (intOf i).toNat)
  case atStart => exact ⟨0, Nat.zero_le _, Nat.zero_le _, rfl, by simp⟩
  case round =>
    obtain ⟨j, hj1, hj2, rfl, he⟩ := hrel
    have HE := hid he
    clear he
    by_cases hlt : j < xs.length
    · obtain ⟨b, off, rfl, hI, hc⟩ := h.str hlt
      by_cases hlt2 : j < ys.length
      · obtain ⟨b2, off2, rfl, hI2, hc2⟩ := k.str hlt2
        have h64 := (cmpS_64 xs[j] ys[j]).out
        by_cases h0 : cmpS xs[j] ys[j] = 0
        · have H0 := hid h0
          have h0' : (cmpS xs[j] ys[j] != 0) = false := by simp [h0]
          clear h0
          go_wp2_with (go_at_call 114; refine (cmp_Compare_s _ _ _).mono ?_; rintro e w2 ⟨rfl, rfl⟩)
          go_round
          case rel => exact ⟨j + 1, by omega, by omega, by go_num, take_snoc_eq hlt hlt2 (cmpS_zero.1 H0.out) HE.out⟩
          case measure => simp [intOf]; omega
        · have H0 := hid h0
          have h0' : (cmpS xs[j] ys[j] != 0) = true := by simp [h0]
          clear h0
          go_wp2_with (go_at_call 114; refine (cmp_Compare_s _ _ _).mono ?_; rintro e w2 ⟨rfl, rfl⟩)
          go_ret
          exact ⟨ret_int (cmpSL_at hlt hlt2 HE.out H0.out).symm, rfl⟩
      · have HX := hid (cmpSL_end hj1 hj2 HE.out (by omega))
        go_wp2_with fail
        go_ret
        exact ⟨ret_int (by rw [HX.out]; unfold cmpI; rw [if_neg (by omega), if_pos (by omega)]), rfl⟩
    · have HX := hid (cmpSL_end hj1 hj2 HE.out (by omega))
      by_cases hll : xs.length < ys.length
      · go_wp2_with fail
        go_ret
        exact ⟨ret_int (by rw [HX.out]; unfold cmpI; rw [if_pos (by omega)]), rfl⟩
      · go_wp2_with fail
        go_ret
        exact ⟨ret_int (by rw [HX.out]; unfold cmpI; rw [if_neg (by omega), if_neg (by omega)]), rfl⟩
end Go.Proofs.YtfieimmlcopbhaaGreatDoor

namespace Go.Proofs.YtfieimmlcopbhaaGreatDoor
open Go.RowKit

def pickOk (r : List Int) (prev : List Int) (x : Int) : Bool := x == -1 || (inB x 0 ((r.length : Int) - 1) && !(r.getD x.toNat 0 == 0) && !hasI x prev)
def pickAt (m : List (List Int)) (a : List Int) (j : Nat) : Bool := pickOk (m.getD j []) (a.take j) (a.getD j 0)
def okAsg (m : List (List Int)) (a : List Int) : Bool := okMat m && a.length == m.length && (List.range a.length).all (pickAt m a)
theorem okAsg_false {m : List (List Int)} {a : List Int} {k : Nat} (hk : k < a.length) (h : pickAt m a k = false) : okAsg m a = false := by
  unfold okAsg
  have : (List.range a.length).all (pickAt m a) = false := List.all_eq_false.2 ⟨k, List.mem_range.2 hk, by simp [h]⟩
  rw [this, Bool.and_false]
theorem okAsg_true {m : List (List Int)} {a : List Int} (hm : okMat m = true) (hl : a.length = m.length) (h : ∀ j, j < a.length → pickAt m a j = true) : okAsg m a = true := by
  unfold okAsg
  rw [hm, List.all_eq_true.2 (fun j hj => h j (List.mem_range.1 hj))]
  simp [hl]
theorem inB_iff {x a b : Int} : inB x a b = true ↔ a ≤ x ∧ x ≤ b := by simp [inB]
theorem getD_at {α : Type} {l : List α} {k : Nat} {d : α} (h : k < l.length) : l.getD k d = l[k] := by simp [List.getD, h]
theorem pickAt_eq {m : List (List Int)} {a : List Int} {k : Nat} (hm : k < m.length) (ha : k < a.length) : pickAt m a k = pickOk m[k] (a.take k) a[k] := by
  unfold pickAt
  rw [getD_at hm, getD_at ha]
theorem pick_m1 {r prev : List Int} {x : Int} (h : x = -1) : pickOk r prev x = true := by simp [pickOk, h]
theorem pick_out {r prev : List Int} {x : Int} (h : ¬ x = -1) (hi : inB x 0 ((r.length : Int) - 1) = false) : pickOk r prev x = false := by simp [pickOk, h, hi]
theorem pick_zero {r prev : List Int} {x : Int} (h : ¬ x = -1) (hr : x.toNat < r.length) (hz : r[x.toNat] = 0) : pickOk r prev x = false := by
  unfold pickOk; rw [getD_at hr, hz]; simp [h]
theorem pick_has {r prev : List Int} {x : Int} (h : ¬ x = -1) (hh : hasI x prev = true) : pickOk r prev x = false := by simp [pickOk, h, hh]
theorem pick_ok {r prev : List Int} {x : Int} (hi : inB x 0 ((r.length : Int) - 1) = true) (hr : x.toNat < r.length) (hz : ¬ r[x.toNat] = 0) (hh : hasI x prev = false) : pickOk r prev x = true := by
  unfold pickOk; rw [getD_at hr, hi, hh]; simp [hz]
theorem lt_succ_all {p : Nat → Prop} {k : Nat} (h : ∀ j, j < k → p j) (hk : p k) : ∀ j, j < k + 1 → p j := fun j hj => by
  by_cases e : j = k
  · subst e; exact hk
  · exact h j (by omega)

end Go.Proofs.YtfieimmlcopbhaaGreatDoor

namespace Go.Proofs.YtfieimmlcopbhaaGreatDoor
open Go.RowKit

theorem star_err : "*" ++ "errors.errorString" = "*errors.errorString" := by decide
theorem row_err (u : TypeId) (h : Tryz.prog.typeName? 3 u = some "*errors.errorString") : u = 168 :=
  typeName_ptr_named (nm := "errors.errorString") (by rw [star_err]; kernel_rfl) (by kernel_rfl) (by decide) u (by rw [star_err]; exact h)
theorem ev_sent {n : String} {g : Nat} {text : List UInt8} {r : List (String × DataW Unit)} {W : World}
    (h : laidMet Tryz.prog ((n, .iface "*errors.errorString" (.ptr (.agg [.lit (.string text)]))) :: r) W) (hg : Tryz.prog.globalNamed n = some g) (ht : (Tryz.prog.globals[g]?).map (·.type) = some 92) :
    ∃ tp p, W.cell? ⟨g, 0, none⟩ = some (.iface tp p) := by
  obtain ⟨a, s, hv, _⟩ := laid_sentinel h hg ht Tryz.underlying92 row_err Tryz.underlying168 Tryz.underlying170 rfl rfl Tryz.underlying9 (by kernel_rfl) (by kernel_rfl)
  exact ⟨_, _, by simpa using World.var?_cell hg hv 0⟩
end Go.Proofs.YtfieimmlcopbhaaGreatDoor

namespace Go.Proofs.YtfieimmlcopbhaaGreatDoor
open Go.RowKit

theorem strings_Cut_c (s : ByteArray) (c : UInt8) (w : World) (hs : s.size ≤ 1048600) (M : ML w) :
    Calls Tryz.prog 44 #[.string s, .string ⟨#[c]⟩] w fun e w2 => e = .returned (.tuple #[.string (bs (Go.Lib.cut s.data.toList [c]).1), .string (bs (Go.Lib.cut s.data.toList [c]).2.1), .bool (Go.Lib.cut s.data.toList [c]).2.2]) ∧ Ext w w2 := by
  obtain ⟨m, hm⟩ := M
  exact (Any.strings_Cut lShCut s ⟨#[c]⟩ m w (by omega) hm).mono fun _ _ ⟨he, n, hw⟩ => ⟨he, by rw [hw]; exact (Ext.refl w).drewN n⟩

theorem strings_Split_c (s : ByteArray) (c : UInt8) (w : World) (hs : s.size ≤ 1048600) (M : ML w) :
    Calls Tryz.prog 53 #[.string s, .string ⟨#[c]⟩] w fun e w2 => ∃ v F, e = .returned v ∧ OwnSl strO w2 v (pcs c s) F ∧ NewF w F ∧ Ext w w2 := by
  obtain ⟨m, hm⟩ := M
  refine (Any.strings_Split lShSplit infoStr s ⟨#[c]⟩ m w (by omega) hm (Nat.le_refl 1)).mono fun e w2 h => ?_
  obtain ⟨he, hw⟩ := h
  have hl := Go.Lib.splitB_all ⟨#[c]⟩ (Nat.le_refl 1) 0 _ s rfl
  rw [splitB_one] at hl hw
  have hl2 : (pcs c s).length = Go.Lib.countB s ⟨#[c]⟩ + 1 := hl
  have hp := pcs_len c s
  rw [← hl2] at he
  subst hw
  refine ⟨_, [w.heap.size], he, ?_, ⟨by simp, fun b hb => by rw [List.mem_singleton] at hb; rw [hb]; exact Nat.le_refl _⟩, (Ext.refl w).alloc _⟩
  have hb := Blk.new w 9 ((pcs c s).map Value.string).toArray
  exact OwnSl.of_blk hb (by unfold maxLen; omega) (strs_cells _ _ fun x hx => by have := pcs_size hx; unfold maxLen; omega)

theorem strconv_Atoi_ok_c (s : ByteArray) (v : Int) (w : World) (hs : s.size ≤ 1048600) (h : Go.Lib.atoiAll s.data.toList = .ok v) :
    Calls Tryz.prog 96 #[.string s] w fun e w2 => e = .returned (.tuple #[.int .i64 v, .nilIface]) ∧ Ext w w2 :=
  (Any.strconv_Atoi_ok lShAtoi s (by omega) v h w).mono fun _ _ ⟨he, hw⟩ => ⟨he, by
    rcases hw with rfl | ⟨t, rfl⟩
    · exact Ext.refl _
    · exact Go.Lib.bytesWorld_below _ _ _⟩
theorem strconv_Atoi_err_c (s : ByteArray) (w : World) (hs : s.size ≤ 1048600) (h : ∀ v, Go.Lib.atoiAll s.data.toList ≠ .ok v) (V : EV w) :
    Calls Tryz.prog 96 #[.string s] w fun e w2 => ∃ n t p, e = .returned (.tuple #[.int .i64 n, .iface t p]) ∧ I64 n ∧ Ext w w2 := by
  obtain ⟨⟨tp, p, h1⟩, tq, q, h2⟩ := V
  rcases hc : Go.Lib.atoiAll s.data.toList with v | _ | _
  · exact absurd hc (h v)
  · exact (Any.strconv_Atoi_syntax lShAtoi s (by omega) hc _ w h1 (.inr ⟨tp, p, rfl⟩)).mono fun _ _ ⟨N, he, _, _, hb⟩ => ⟨_, _, _, he, by unfold I64; omega, hb⟩
  · exact (Any.strconv_Atoi_range lShAtoi s (by omega) hc _ w h2 (.inr ⟨tq, q, rfl⟩)).mono fun _ _ ⟨N, he, _, _, hb⟩ => ⟨_, _, _, he, Go.Lib.atoiSat_bounds _, hb⟩
end Go.Proofs.YtfieimmlcopbhaaGreatDoor

namespace Go.Proofs.YtfieimmlcopbhaaGreatDoor
open Go.RowKit

theorem Bld.emp {α : Type} {R : RepO α} {W : World} {base g : Nat} {e : TypeId} (hb : base ≤ g) (h : W.heap[g]? = some (.cells #[] e (0, 0))) : Bld R W base e (.slice (some ⟨g, 0, none⟩) 0 0) ([] : List α) [] :=
  ⟨[], ⟨by simp, .inr ⟨g, 0, #[], rfl, hb, h, Nat.le_refl _, Nat.zero_le _, by simp, by simp⟩⟩, .nil, fun _ _ h => (by cases h), List.nodup_nil, fun _ h => by cases h⟩
theorem Sl.strs_some {w : World} {ad : Addr} {n cap : Nat} {xs : List ByteArray} (h : Sl strR w (.slice (some ad) n cap) xs) : ∀ j u, (xs.map Value.string)[j]? = some u → w.cell? (ad.add j) = some u := by
  intro j u hj
  rw [List.getElem?_map] at hj
  obtain ⟨x, hx, rfl⟩ := Option.map_eq_some_iff.1 hj
  obtain ⟨hi, hx⟩ := List.getElem?_eq_some_iff.1 hx
  obtain ⟨b, off, e, h1, hc⟩ := h.str hi
  injection e with e
  subst e
  rw [add_eq, hc, hx]
theorem heapA (w : World) (o o2 : Obj) : ((w.alloc o).alloc o2).heap[w.heap.size + 1]? = some o2 := by
  have := heap_alloc_new (w.alloc o) o2
  simpa using this
theorem heapB (w : World) (o o2 : Obj) : ((w.alloc o).alloc o2).heap[w.heap.size]? = some o :=
  (((Ext.refl (w.alloc o)).alloc o2).block (by simp)).trans (heap_alloc_new w o)
/-- onto an empty literal -/
theorem step_apps {P : Program} {ops : Array Oper} {o : Oper} {a : Act} {w : World} {K : Act → World → Prop} {Q : Exit → Act → World → Prop} {Z : Prop} {t e : TypeId} (E : ElemT P t e strO.n 16)
    (hgd : o.guard = none) (s x : Operand) (ho : o.op = .call { callee := .builtin .append, args := #[s, x], argTypes := #[t, t] })
    {base g : Nat} (hs : a.eval s = .slice (some ⟨g, 0, none⟩) 0 0) (hbg : base ≤ g) (hg : w.heap[g]? = some (.cells #[] e (0, 0))) {ad : Addr} {n k : Nat} (hx : a.eval x = .slice (some ad) n k) {ys : List ByteArray} (hy : Sl strR w (.slice (some ad) n k) ys)
    (hbytes : ys.length ≤ 1099511627776) {w0 : World} (h0 : w0.heap.size ≤ base) (hx0 : Ext w0 w)
    (h : ∀ v' w', Bld strO w' base e v' ys [] → Ext w0 w' → (∀ b, b < w.heap.size → b ≠ g → w'.heap[b]? = w.heap[b]?) → K (a.put o.dst v') w') :
    if Region.wanted o (yielded ops a.tmps) = true then Oper.wp P o a w K Q else Z := by
  have hw : Region.wanted o (yielded ops a.tmps) = true := by simp [Region.wanted, hgd]
  rw [if_pos hw]
  have hb : Bld strO w base e (.slice (some ⟨g, 0, none⟩) 0 0) ([] : List ByteArray) [] := Bld.emp hbg hg
  have hbase : base ≤ w.heap.size := Nat.le_trans hbg (Nat.le_of_lt (block_lt hg))
  obtain ⟨ht, i, z, hi, hz, hsize, hby2, hzs⟩ := E
  have hn : n = ys.length := hy.cap_.1
  by_cases hm : 0 < n
  · have hc := hy.strs_some
    have hl := hb.lt
    have hml := hy.strlen
    obtain ⟨cs, b1, b2, b3, b4, b5⟩ := hb
    refine wp_append_lies w s x t ho base e i z strO.n 16 ht hi hz hsize hby2 hzs (by decide) _ 0 cs hs b1 ad n k (ys.map Value.string) hx (by rw [List.length_map, hn]; exact (Nat.mul_one _).symm) hc (fun u hu => by
      obtain ⟨y, _, rfl⟩ := List.mem_map.1 hu; rfl) hm (by unfold maxLen; omega) (by omega) hbase w.heap.size rfl ?_
    intro g' cap w' hown hgr hat _
    have hcs : cs = [] := by
      have := b1.1
      exact List.eq_nil_of_length_eq_zero (by simpa using this)
    subst hcs
    refine h _ _ ⟨ys.map Value.string, by rw [← hn]; simpa using hown, strs_cells _ _ hml, fun _ _ h9 => (by cases h9), List.nodup_nil, fun _ h9 => by cases h9⟩ (hx0.grown hgr fun g9 hg9 => Nat.le_trans h0 (hl.2 g9 hg9).2) fun b hb hne => hgr.block b hb (fun e9 => hne (by simpa [Value.ownBlock] using e9))
  · have hn0 : n = 0 := by omega
    subst hn0
    have hys : ys = [] := List.eq_nil_of_length_eq_zero hn.symm
    subst hys
    have hr : (Builtin.append_ #[t, t] o.type #[.slice (some ⟨g, 0, none⟩) 0 0, .slice (some ad) 0 k]).run P w = .ok (.slice (some ⟨g, 0, none⟩) 0 0) w := by
      simp [Builtin.append_, run_underlying ht, sizeOf, typeInfo, hi, Builtin.lenOf, Builtin.firstCells, storeCells, loadCells, loadCellsFrom]
    unfold Oper.wp execOp
    simp only [ho, resolve, invoke, builtin, Sem.run_bind, Sem.run_pure, Result.andThen_ok, List.map_toArray, List.map_cons, List.map_nil, hs, hx, hr]
    exact h _ _ hb hx0 fun _ _ _ => rfl
/-- a block of another element type is none of the row's -/
theorem Bld.own_ne {w : World} {base g : Nat} {e T : TypeId} {v : Value} {xs : List ByteArray} {cs9 : List Value} (h : Bld strO w base e v xs []) (h8 : Blk w g T cs9) (hT : e ≠ T) : ∃ F, OwnSl strO w v xs F ∧ F.Nodup ∧ (∀ b ∈ F, base ≤ b) ∧ g ∉ F := by
  obtain ⟨cs, h1, h2, h3, h4, h5⟩ := h
  rcases h1.2 with ⟨rfl, hn⟩ | ⟨g', cap, cur, rfl, hb, hh, hnc, hcm, hcs, htake⟩
  · have : xs = [] := List.eq_nil_of_length_eq_zero hn
    exact ⟨[], .inl ⟨this, rfl, none, 0, rfl, Nat.zero_le _⟩, List.nodup_nil, (fun _ h => by cases h), (fun h => by cases h)⟩
  · refine ⟨[g'], .inr ⟨g', 0, cap, cur, e, [], rfl, ⟨hnc, hcm⟩, hh, rfl, ?_, by rw [List.drop_zero, htake]; exact h2⟩, by simp, fun b hb2 => ?_, fun hm => ?_⟩
    · rw [hcs, Nat.zero_add]; exact Nat.mul_le_mul_right _ hnc
    · rw [List.mem_singleton] at hb2
      rw [hb2]; exact hb
    · rw [List.mem_singleton] at hm
      subst hm
      have e9 := hh.symm.trans h8.out
      injection e9 with e9
      injection e9 with _ e9 _
      exact hT e9
end Go.Proofs.YtfieimmlcopbhaaGreatDoor

namespace Go.Proofs.YtfieimmlcopbhaaGreatDoor
open Go.RowKit

def valAt (m : List (List Int)) (a : List Int) (j : Nat) : Int := if 0 ≤ a.getD j 0 then (m.getD j []).getD (a.getD j 0).toNat 0 else 0
def sumTo (m : List (List Int)) (a : List Int) : Nat → Int
  | 0 => 0
  | k + 1 => sumTo m a k + valAt m a k
noncomputable def asgVal (m : List (List Int)) (a : List Int) : Int := if okAsg m a then sumTo m a a.length else -1

theorem okMat_at {m : List (List Int)} (h : okMat m = true) {i : Nat} (hi : i < m.length) : m[i].length = width m ∧ m[i].length ≤ 8 ∧ ∀ x ∈ m[i], 0 ≤ x ∧ x ≤ 100 := by
  unfold okMat at h
  rw [Bool.and_eq_true] at h
  have := List.all_eq_true.1 h.1 m[i] (List.getElem_mem hi)
  simp only [okRow, Bool.and_eq_true, beq_iff_eq, decide_eq_true_eq] at this
  exact ⟨this.1.1, this.1.2, fun x hx => inB_iff.1 (List.all_eq_true.1 this.2 x hx)⟩
theorem okMat_len {m : List (List Int)} (h : okMat m = true) : m.length ≤ 8 := by
  unfold okMat at h
  rw [Bool.and_eq_true] at h
  simpa using h.2
theorem getD_bd {l : List Int} (h : ∀ x ∈ l, 0 ≤ x ∧ x ≤ 100) (k : Nat) : 0 ≤ l.getD k 0 ∧ l.getD k 0 ≤ 100 := by
  by_cases hk : k < l.length
  · rw [getD_at hk]; exact h _ (List.getElem_mem hk)
  · simp [List.getD, hk]
theorem valAt_bd {m : List (List Int)} (h : okMat m = true) (a : List Int) (j : Nat) : 0 ≤ valAt m a j ∧ valAt m a j ≤ 100 := by
  unfold valAt
  split
  · by_cases hj : j < m.length
    · rw [getD_at hj]; exact getD_bd (okMat_at h hj).2.2 _
    · simp [List.getD, hj]
  · omega
theorem sumTo_bd {m : List (List Int)} (h : okMat m = true) (a : List Int) (k : Nat) : 0 ≤ sumTo m a k ∧ sumTo m a k ≤ 100 * k := by
  induction k with
  | zero => simp [sumTo]
  | succ k ih =>
    have := valAt_bd h a k
    simp only [sumTo]; omega
theorem okAsg_parts {m : List (List Int)} {a : List Int} (h : okAsg m a = true) : okMat m = true ∧ a.length = m.length ∧ ∀ j, j < a.length → pickAt m a j = true := by
  unfold okAsg at h
  simp only [Bool.and_eq_true, beq_iff_eq] at h
  exact ⟨h.1.1, h.1.2, fun j hj => List.all_eq_true.1 h.2 j (List.mem_range.2 hj)⟩
theorem pick_in {r prev : List Int} {x : Int} (h : pickOk r prev x = true) (h0 : 0 ≤ x) : x.toNat < r.length := by
  unfold pickOk at h
  simp only [Bool.or_eq_true, beq_iff_eq, Bool.and_eq_true] at h
  rcases h with h | h
  · omega
  · have := inB_iff.1 h.1.1; omega
theorem valAt_yes {m : List (List Int)} {a : List Int} {k : Nat} (hm : k < m.length) (ha : k < a.length) (h0 : 0 ≤ a[k]) (hr : a[k].toNat < m[k].length) : valAt m a k = m[k][a[k].toNat] := by
  unfold valAt; rw [getD_at hm, getD_at ha, if_pos h0, getD_at hr]
theorem valAt_no {m : List (List Int)} {a : List Int} {k : Nat} (ha : k < a.length) (h0 : ¬ 0 ≤ a[k]) : valAt m a k = 0 := by
  unfold valAt; rw [getD_at ha, if_neg h0]

end Go.Proofs.YtfieimmlcopbhaaGreatDoor

namespace Go.Proofs.YtfieimmlcopbhaaGreatDoor
open Go.RowKit

/-- one row's columns from k on -/
def bvRow (next : Nat → Int) (t : Nat) : Nat → List Int → Int → Int
  | _, [], acc => acc
  | k, x :: xs, acc => bvRow next t (k + 1) xs (if 0 < x ∧ t.testBit k = false then max acc (x + next (t ||| 1 <<< k)) else acc)
def bv : List (List Int) → Nat → Int
  | [], _ => 0
  | r :: rs, t => bvRow (bv rs) t 0 r (bv rs t)

theorem bvRow_bd {next : Nat → Int} {B : Int} (hn : ∀ t, 0 ≤ next t ∧ next t ≤ B) (t : Nat) : ∀ (xs : List Int) (k : Nat) (acc : Int), (∀ x ∈ xs, 0 ≤ x ∧ x ≤ 100) → 0 ≤ acc → acc ≤ B + 100 →
    0 ≤ bvRow next t k xs acc ∧ bvRow next t k xs acc ≤ B + 100
  | [], k, acc, _, h1, h2 => ⟨h1, h2⟩
  | x :: xs, k, acc, hx, h1, h2 => by
    have hx0 := hx x (List.mem_cons_self ..)
    have hnt := hn (t ||| 1 <<< k)
    unfold bvRow
    refine bvRow_bd hn t xs (k + 1) _ (fun y hy => hx y (List.mem_cons_of_mem _ hy)) ?_ ?_
    · split <;> omega
    · split <;> omega
theorem bv_bd : ∀ (m : List (List Int)) (t : Nat), (∀ r ∈ m, ∀ x ∈ r, 0 ≤ x ∧ x ≤ 100) → 0 ≤ bv m t ∧ bv m t ≤ 100 * m.length
  | [], t, _ => by simp [bv]
  | r :: rs, t, h => by
    have ih : ∀ t, 0 ≤ bv rs t ∧ bv rs t ≤ 100 * rs.length := fun t => bv_bd rs t fun r' hr => h r' (List.mem_cons_of_mem _ hr)
    have h0 := ih t
    have := bvRow_bd ih t r 0 (bv rs t) (h r (List.mem_cons_self ..)) h0.1 (by omega)
    unfold bv
    simp only [List.length_cons]
    omega
theorem bvRow_snoc (next : Nat → Int) (t : Nat) : ∀ (xs : List Int) (k : Nat) (acc : Int) (x : Int), bvRow next t k (xs ++ [x]) acc =
    (if 0 < x ∧ t.testBit (k + xs.length) = false then max (bvRow next t k xs acc) (x + next (t ||| 1 <<< (k + xs.length))) else bvRow next t k xs acc)
  | [], k, acc, x => by simp [bvRow]
  | y :: ys, k, acc, x => by
    simp only [List.cons_append, bvRow, List.length_cons]
    rw [bvRow_snoc next t ys (k + 1) _ x, show k + 1 + ys.length = k + (ys.length + 1) by omega]

theorem bv_step (m : List (List Int)) (k : Nat) (h : k < m.length) (t : Nat) : bv (m.drop k) t = bvRow (bv (m.drop (k + 1))) t 0 m[k] (bv (m.drop (k + 1)) t) := by
  rw [List.drop_eq_getElem_cons h, bv]
theorem bv_end (m : List (List Int)) (t : Nat) : bv (m.drop m.length) t = 0 := by rw [List.drop_length, bv]

theorem okMat_mem {m : List (List Int)} (h : okMat m = true) {r : List Int} (hr : r ∈ m) : ∀ x ∈ r, 0 ≤ x ∧ x ≤ 100 := by
  obtain ⟨i, hi, rfl⟩ := List.getElem_of_mem hr
  exact (okMat_at h hi).2.2
/-- a table of n rows of N ints -/
def tab (n N : Nat) (f : Nat → Nat → Int) : List (List Int) := (List.range n).map fun j => (List.range N).map (f j)
def upd (f : Nat → Nat → Int) (i s : Nat) (x : Int) : Nat → Nat → Int := fun j t => if j = i ∧ t = s then x else f j t
theorem upd_same (f : Nat → Nat → Int) (i s : Nat) (x : Int) : upd f i s x i s = x := by simp [upd]
theorem upd_other (f : Nat → Nat → Int) {i s j t : Nat} (x : Int) (h : ¬ (j = i ∧ t = s)) : upd f i s x j t = f j t := by simp only [upd]; rw [if_neg h]
theorem tab_len (n N : Nat) (f : Nat → Nat → Int) : (tab n N f).length = n := by simp [tab]
theorem tab_row {n N : Nat} {f : Nat → Nat → Int} {i : Nat} (h : i < (tab n N f).length) : (tab n N f)[i] = (List.range N).map (f i) := by simp [tab]
theorem tab_set {n N : Nat} {f : Nat → Nat → Int} {i s : Nat} (h : i < (tab n N f).length) (x : Int) : (tab n N f).set i ((tab n N f)[i].set s x) = tab n N (upd f i s x) := by
  rw [tab_row h]
  have hl : (((tab n N f).set i (((List.range N).map (f i)).set s x))).length = (tab n N (upd f i s x)).length := by rw [List.length_set, tab_len, tab_len]
  refine List.ext_getElem hl fun j h1 h2 => ?_
  rw [tab_row h2, List.getElem_set]
  by_cases e : i = j
  · subst e
    rw [if_pos rfl]
    refine List.ext_getElem (by simp) fun t h3 h4 => ?_
    rw [List.getElem_set]
    by_cases e : s = t
    · subst e; simp [upd]
    · rw [if_neg e]
      simp only [List.getElem_map, List.getElem_range]
      rw [upd_other f x (fun h => e h.2.symm)]
  · rw [if_neg e, tab_row (by simpa using h1)]
    refine List.map_congr_left fun t _ => ?_
    rw [upd_other f x (fun h => e h.1.symm)]
theorem tab_zero (n N : Nat) : List.replicate n (List.replicate N (0 : Int)) = tab n N fun _ _ => 0 := by
  refine List.ext_getElem (by simp [tab]) fun j h1 h2 => ?_
  rw [tab_row h2, List.getElem_replicate]
  refine List.ext_getElem (by simp) fun t h3 h4 => ?_
  simp
/-- a cell of the table, and what stands behind a store -/
theorem tab_at {w : World} {g off n N cap : Nat} {f : Nat → Nat → Int} {F : List Nat} (h : OwnSl (slO intO) w (.slice (some ⟨g, off, none⟩) n cap) (tab n N f) F) (hN : F.Nodup) {i s : Nat} (hi : i < n) (hs : s < N) :
    ∃ b o2 cap2, w.cell? ⟨g, off + i, none⟩ = some (.slice (some ⟨b, o2, none⟩) N cap2) ∧ b ∈ F ∧ g ≠ b ∧ w.cell? ⟨b, o2 + s, none⟩ = some (.int .i64 (f i s)) ∧ w.frozen? ⟨b, o2 + s, none⟩ = false ∧
      ∀ x, I64 x → OwnSl (slO intO) (w.setCell ⟨b, o2 + s, none⟩ (.int .i64 x)) (.slice (some ⟨g, off, none⟩) n cap) (tab n N (upd f i s x)) F := by
  have hi2 : i < (tab n N f).length := by rw [tab_len]; exact hi
  have hs2 : s < (tab n N f)[i].length := by rw [tab_row]; simpa using hs
  obtain ⟨g', off', cap', b, o2, cap2, e, h1, h2, h3, h4, h5, h6⟩ := h.ints_store hN hi2 hs2
  injection e with e1 e2 e3
  injection e1 with e1
  injection e1 with e4 e5
  subst e4; subst e5; subst e3
  refine ⟨b, o2, cap2, ?_, h2, h3, ?_, h5, fun x hx => ?_⟩
  · rw [h1, tab_row]; simp
  · rw [h4]; simp [tab_row]
  · have := h6 x hx
    rwa [tab_set] at this
end Go.Proofs.YtfieimmlcopbhaaGreatDoor

namespace Go.Proofs.YtfieimmlcopbhaaGreatDoor
open Go.RowKit

theorem zeros_own (W : World) : ∀ n : Nat, OwnCells intO W (List.replicate n (.int .i64 0)) (List.replicate n (0 : Int)) []
  | 0 => .nil
  | n + 1 => by
    simp only [List.replicate_succ]
    exact ⟨[.int .i64 0], _, [], [], rfl, rfl, ⟨⟨rfl, by unfold I64; omega⟩, rfl⟩, zeros_own W n⟩
theorem ownInts (W : World) (n : Nat) (T : TypeId) (hn : n ≤ maxLen) : OwnSl intO (W.alloc (.cells (List.replicate n (.int .i64 0)).toArray T)) (.slice (some ⟨W.heap.size, 0, none⟩) n n) (List.replicate n (0 : Int)) [W.heap.size] := by
  have h := OwnSl.of_blk (R := intO) (xs := List.replicate n (0 : Int)) (F2 := []) (Blk.new W T (List.replicate n (.int .i64 0)).toArray) (by simpa using hn) (zeros_own _ n)
  simpa using h

end Go.Proofs.YtfieimmlcopbhaaGreatDoor

namespace Go.Proofs.YtfieimmlcopbhaaGreatDoor
open Go.RowKit
end Go.Proofs.YtfieimmlcopbhaaGreatDoor

namespace Go.Proofs.YtfieimmlcopbhaaGreatDoor
open Go.RowKit

/-- the first of the numbers j, .., j + c - 1 that meets p -/
def ff (p : Nat → Bool) : Nat → Nat → Int
  | _, 0 => -1
  | j, c + 1 => if p j then (j : Int) else ff p (j + 1) c
theorem ff_bd (p : Nat → Bool) : ∀ (c j : Nat), -1 ≤ ff p j c ∧ ff p j c < (j + c : Nat)
  | 0, j => by simp only [ff]; omega
  | c + 1, j => by
    have := ff_bd p c (j + 1)
    simp only [ff]
    split <;> omega
def pickP (r : List Int) (next : Nat → Int) (cur : Int) (t k : Nat) : Bool := decide (0 < r.getD k 0) && !t.testBit k && decide (r.getD k 0 + next (t ||| 1 <<< k) = cur)
def pickOf (r : List Int) (rs : List (List Int)) (t : Nat) : Int := ff (pickP r (bv rs) (bv (r :: rs) t) t) 0 r.length
def takeBit (t : Nat) (c : Int) : Nat := if 0 ≤ c then t ||| 1 <<< c.toNat else t
def asgFrom : List (List Int) → Nat → List Int
  | [], _ => []
  | r :: rs, t => pickOf r rs t :: asgFrom rs (takeBit t (pickOf r rs t))
def bestAsg (m : List (List Int)) : List Int := if okMat m then asgFrom m 0 else []
theorem asgFrom_len : ∀ (m : List (List Int)) (t : Nat), (asgFrom m t).length = m.length
  | [], _ => rfl
  | r :: rs, t => by simp only [asgFrom, List.length_cons, asgFrom_len rs]
theorem takeBit_lt {t n : Nat} {c : Int} (ht : t < 2 ^ n) (hc : c < n) : takeBit t c < 2 ^ n := by
  unfold takeBit
  split
  · exact bit_set_lt ht (by omega)
  · exact ht
theorem bv_cons (m : List (List Int)) (k : Nat) (h : k < m.length) (t : Nat) : bv (m.drop k) t = bv (m[k] :: m.drop (k + 1)) t := by rw [List.drop_eq_getElem_cons h]

end Go.Proofs.YtfieimmlcopbhaaGreatDoor

namespace Go.Proofs.YtfieimmlcopbhaaGreatDoor
open Go.RowKit

noncomputable def bestVal (m : List (List Int)) : Int := if okMat m then bv m 0 else -1

end Go.Proofs.YtfieimmlcopbhaaGreatDoor

namespace Go.Proofs.YtfieimmlcopbhaaGreatDoor
open Go.RowKit

def upTo (n : Nat) : List Int := (List.range n).map fun (k : Nat) => (k : Int)
theorem upTo_len (n : Nat) : (upTo n).length = n := by simp [upTo]
theorem upTo_succ (n : Nat) : upTo (n + 1) = upTo n ++ [(n : Int)] := by simp [upTo, List.range_succ]
theorem idxF_ff (p : Int → Bool) (q : Nat → Bool) : ∀ (c j : Nat), (∀ k, j ≤ k → k < j + c → p (k : Int) = q k) → idxF p j ((List.range' j c).map fun (k : Nat) => (k : Int)) = ff q j c
  | 0, j, _ => rfl
  | c + 1, j, h => by
    rw [List.range'_succ, List.map_cons, idxF, ff, h j (Nat.le_refl _) (by omega), idxF_ff p q c (j + 1) fun k h1 h2 => h k (by omega) (by omega)]
theorem idxF_upTo (p : Int → Bool) (q : Nat → Bool) (n : Nat) (h : ∀ k, k < n → p (k : Int) = q k) : idxF p 0 (upTo n) = ff q 0 n := by
  have := idxF_ff p q n 0 fun k _ h2 => h k (by omega)
  rw [← this, upTo, List.range_eq_range']

end Go.Proofs.YtfieimmlcopbhaaGreatDoor

namespace Go.Proofs.YtfieimmlcopbhaaGreatDoor
open Go.RowKit
end Go.Proofs.YtfieimmlcopbhaaGreatDoor

namespace Go.Proofs.YtfieimmlcopbhaaGreatDoor
open Go.RowKit

def valR (r : List Int) (x : Int) : Int := if 0 ≤ x then r.getD x.toNat 0 else 0
def tot : List (List Int) → List Int → Int
  | r :: rs, x :: ys => valR r x + tot rs ys
  | _, _ => 0
theorem tot_take (m : List (List Int)) (a : List Int) (hl : a.length = m.length) : ∀ k, k ≤ a.length → sumTo m a k + tot (m.drop k) (a.drop k) = tot m a
  | 0, _ => by simp [sumTo]
  | k + 1, h => by
    have ih := tot_take m a hl k (by omega)
    have hk : k < a.length := by omega
    have hm : k < m.length := by omega
    rw [List.drop_eq_getElem_cons hm, List.drop_eq_getElem_cons hk] at ih
    simp only [tot] at ih
    have hv : valAt m a k = valR m[k] a[k] := by unfold valAt valR; rw [getD_at hm, getD_at hk]
    simp only [sumTo]; rw [hv]; omega
def okL : List Int → List (List Int) → List Int → Prop
  | _, [], [] => True
  | prev, r :: rs, x :: ys => pickOk r prev x = true ∧ okL (prev ++ [x]) rs ys
  | _, _, _ => False
theorem okL_of (m : List (List Int)) (a : List Int) (hl : a.length = m.length) (h : ∀ j, j < a.length → pickAt m a j = true) : ∀ n k, k + n = a.length → okL (a.take k) (m.drop k) (a.drop k)
  | 0, k, e => by
    rw [List.drop_of_length_le (by omega), List.drop_of_length_le (by omega)]; simp [okL]
  | n + 1, k, e => by
    have hk : k < a.length := by omega
    have hm : k < m.length := by omega
    have h2 := okL_of m a hl h n (k + 1) (by omega)
    rw [List.drop_eq_getElem_cons hm, List.drop_eq_getElem_cons hk]
    simp only [okL]
    refine ⟨?_, ?_⟩
    · have := h k hk; rwa [pickAt_eq hm hk] at this
    · rwa [List.take_succ_eq_append_getElem hk] at h2
theorem okL_len : ∀ (m : List (List Int)) (a prev : List Int), okL prev m a → a.length = m.length
  | [], [], _, _ => rfl
  | r :: rs, x :: ys, prev, h => by
    simp only [okL] at h
    simp [okL_len rs ys _ h.2]
  | [], _ :: _, _, h => by simp [okL] at h
  | _ :: _, [], _, h => by simp [okL] at h
theorem okL_pick : ∀ (m : List (List Int)) (a prev : List Int), okL prev m a → ∀ j, j < a.length → pickOk (m.getD j []) (prev ++ a.take j) (a.getD j 0) = true
  | [], [], _, _, j, hj => by simp at hj
  | r :: rs, x :: ys, prev, h, 0, _ => by
    simp only [okL] at h
    simpa using h.1
  | r :: rs, x :: ys, prev, h, j + 1, hj => by
    simp only [okL] at h
    have := okL_pick rs ys (prev ++ [x]) h.2 j (by simpa using hj)
    simpa [List.append_assoc] using this
  | [], _ :: _, _, h, _, _ => by simp [okL] at h
  | _ :: _, [], _, h, _, _ => by simp [okL] at h
theorem pick_parts {r prev : List Int} {x : Int} (h : pickOk r prev x = true) : x = -1 ∨ (0 ≤ x ∧ x.toNat < r.length ∧ r.getD x.toNat 0 ≠ 0 ∧ x ∉ prev) := by
  unfold pickOk at h
  simp only [Bool.or_eq_true, beq_iff_eq, Bool.and_eq_true, Bool.not_eq_true'] at h
  rcases h with h | ⟨⟨h1, h2⟩, h3⟩
  · exact .inl h
  · have := inB_iff.1 h1
    exact .inr ⟨this.1, by omega, by simpa using h2, fun hm => by rw [(hasI_iff x prev).2 hm] at h3; cases h3⟩
theorem pick_mk {r prev : List Int} {x : Int} (h0 : 0 ≤ x) (h1 : x.toNat < r.length) (h2 : r.getD x.toNat 0 ≠ 0) (h3 : x ∉ prev) : pickOk r prev x = true := by
  unfold pickOk
  have e1 : inB x 0 ((r.length : Int) - 1) = true := inB_iff.2 ⟨h0, by omega⟩
  have e2 : hasI x prev = false := by
    cases h : hasI x prev with
    | false => rfl
    | true => exact absurd ((hasI_iff x prev).1 h) h3
  have e3 : (r.getD x.toNat 0 == 0) = false := beq_eq_false_iff_ne.2 h2
  rw [e1, e2, e3]; simp
def Inv (t : Nat) (prev : List Int) : Prop := ∀ c : Nat, t.testBit c = true ↔ (c : Int) ∈ prev
theorem Inv.step {t : Nat} {prev : List Int} {x : Int} (h : Inv t prev) (hx : -1 ≤ x) : Inv (takeBit t x) (prev ++ [x]) := by
  intro c
  unfold takeBit
  split
  · rename_i h0
    rw [Nat.testBit_or, Nat.one_shiftLeft, Nat.testBit_two_pow, Bool.or_eq_true, h c, List.mem_append, List.mem_singleton, decide_eq_true_eq]
    constructor
    · rintro (h1 | h1)
      · exact .inl h1
      · exact .inr (by omega)
    · rintro (h1 | h1)
      · exact .inl h1
      · exact .inr (by omega)
  · rw [h c, List.mem_append, List.mem_singleton]
    exact ⟨.inl, fun h1 => h1.elim id (fun h2 => by omega)⟩
theorem bvRow_ge (next : Nat → Int) (t : Nat) : ∀ (xs : List Int) (k : Nat) (acc : Int), acc ≤ bvRow next t k xs acc
  | [], _, _ => Int.le_refl _
  | x :: xs, k, acc => by
    simp only [bvRow]
    refine Int.le_trans ?_ (bvRow_ge next t xs (k + 1) _)
    split <;> omega
theorem bvRow_at (next : Nat → Int) (t : Nat) : ∀ (xs : List Int) (k : Nat) (acc : Int) (i : Nat) (hi : i < xs.length), 0 < xs[i] → t.testBit (k + i) = false → xs[i] + next (t ||| 1 <<< (k + i)) ≤ bvRow next t k xs acc
  | x :: xs, k, acc, 0, _, h1, h2 => by
    simp only [bvRow]
    refine Int.le_trans ?_ (bvRow_ge next t xs (k + 1) _)
    have h1 : 0 < x := h1
    have h2 : t.testBit k = false := h2
    rw [if_pos ⟨h1, h2⟩]
    show x + next (t ||| 1 <<< k) ≤ _
    omega
  | x :: xs, k, acc, i + 1, hi, h1, h2 => by
    simp only [bvRow]
    have := bvRow_at next t xs (k + 1) (if 0 < x ∧ t.testBit k = false then max acc (x + next (t ||| 1 <<< k)) else acc) i (by simpa using hi) h1 (by rw [show k + 1 + i = k + (i + 1) by omega]; exact h2)
    rw [show k + 1 + i = k + (i + 1) by omega] at this
    exact this
theorem bvRow_from (next : Nat → Int) (t : Nat) : ∀ (xs : List Int) (k : Nat) (acc : Int), bvRow next t k xs acc = acc ∨ ∃ i, ∃ hi : i < xs.length, 0 < xs[i] ∧ t.testBit (k + i) = false ∧ bvRow next t k xs acc = xs[i] + next (t ||| 1 <<< (k + i))
  | [], _, _ => .inl rfl
  | x :: xs, k, acc => by
    simp only [bvRow]
    by_cases hc : 0 < x ∧ t.testBit k = false
    · rw [if_pos hc]
      rcases bvRow_from next t xs (k + 1) (max acc (x + next (t ||| 1 <<< k))) with h | ⟨i, hi, h1, h2, h3⟩
      · rw [h]
        by_cases hm : acc ≤ x + next (t ||| 1 <<< k)
        · exact .inr ⟨0, by simp, hc.1, hc.2, by rw [Int.max_eq_right hm]; rfl⟩
        · exact .inl (by omega)
      · refine .inr ⟨i + 1, by simpa using hi, h1, ?_, ?_⟩
        · rw [show k + (i + 1) = k + 1 + i by omega]; exact h2
        · rw [show k + (i + 1) = k + 1 + i by omega]; exact h3
    · rw [if_neg hc]
      rcases bvRow_from next t xs (k + 1) acc with h | ⟨i, hi, h1, h2, h3⟩
      · exact .inl h
      · refine .inr ⟨i + 1, by simpa using hi, h1, ?_, ?_⟩
        · rw [show k + (i + 1) = k + 1 + i by omega]; exact h2
        · rw [show k + (i + 1) = k + 1 + i by omega]; exact h3
theorem opt : ∀ (m : List (List Int)) (a : List Int) (t : Nat) (prev : List Int), okL prev m a → Inv t prev → (∀ r ∈ m, ∀ x ∈ r, 0 ≤ x ∧ x ≤ 100) → tot m a ≤ bv m t
  | [], [], _, _, _, _, _ => Int.le_refl _
  | r :: rs, x :: ys, t, prev, h, hI, hm => by
    simp only [okL] at h
    have hpp := pick_parts h.1
    have ih := opt rs ys (takeBit t x) (prev ++ [x]) h.2 (hI.step (by omega)) (fun r' hr => hm r' (List.mem_cons_of_mem _ hr))
    simp only [tot, bv]
    rcases hpp with h0 | ⟨h0, hp, hnz, hfree⟩
    · subst h0
      have e : takeBit t (-1) = t := by simp [takeBit]
      rw [e] at ih
      have := bvRow_ge (bv rs) t r 0 (bv rs t)
      have hv : valR r (-1) = 0 := by simp [valR]
      rw [hv]; omega
    · have e : takeBit t x = t ||| 1 <<< x.toNat := by unfold takeBit; rw [if_pos h0]
      rw [e] at ih
      rw [getD_at hp] at hnz
      have hr := hm r (List.mem_cons_self ..) _ (List.getElem_mem hp)
      have hb : t.testBit (0 + x.toNat) = false := by
        rw [Nat.zero_add]
        cases hb : t.testBit x.toNat with
        | false => rfl
        | true => exact absurd (by have := (hI x.toNat).1 hb; rwa [Int.toNat_of_nonneg h0] at this) hfree
      have := bvRow_at (bv rs) t r 0 (bv rs t) x.toNat hp (by omega) hb
      rw [Nat.zero_add] at this
      have hv : valR r x = r[x.toNat] := by unfold valR; rw [if_pos h0, getD_at hp]
      rw [hv]; omega
  | [], _ :: _, _, _, h, _, _ => by simp [okL] at h
  | _ :: _, [], _, _, h, _, _ => by simp [okL] at h
theorem ff_spec (p : Nat → Bool) : ∀ c j, (ff p j c = -1 ∧ ∀ i, j ≤ i → i < j + c → p i = false) ∨ ∃ i, j ≤ i ∧ i < j + c ∧ ff p j c = (i : Int) ∧ p i = true
  | 0, j => .inl ⟨rfl, fun i h1 h2 => by omega⟩
  | c + 1, j => by
    simp only [ff]
    cases hp : p j with
    | true => exact .inr ⟨j, Nat.le_refl _, by omega, by simp, hp⟩
    | false =>
      rcases ff_spec p c (j + 1) with ⟨h1, h2⟩ | ⟨i, h1, h2, h3, h4⟩
      · exact .inl ⟨by simpa using h1, fun i h5 h6 => by
          by_cases e : i = j
          · subst e; exact hp
          · exact h2 i (by omega) (by omega)⟩
      · exact .inr ⟨i, by omega, by omega, by simpa using h3, h4⟩
theorem best_ok : ∀ (m : List (List Int)) (t : Nat) (prev : List Int), Inv t prev → okL prev m (asgFrom m t) ∧ tot m (asgFrom m t) = bv m t
  | [], t, prev, _ => ⟨by simp [okL, asgFrom], rfl⟩
  | r :: rs, t, prev, hI => by
    have hs := ff_spec (pickP r (bv rs) (bv (r :: rs) t) t) r.length 0
    simp only [asgFrom, okL, tot]
    rcases hs with ⟨h1, h2⟩ | ⟨i, _, hi, h1, h2⟩
    · have hp : pickOf r rs t = -1 := h1
      rw [hp]
      have e : takeBit t (-1) = t := by simp [takeBit]
      rw [e]
      have ih := best_ok rs t (prev ++ [-1]) (by have := hI.step (x := -1) (by omega); rwa [e] at this)
      refine ⟨⟨pick_m1 rfl, ih.1⟩, ?_⟩
      rw [ih.2]
      have hv : valR r (-1) = 0 := by simp [valR]
      rw [hv, Int.zero_add]
      rcases bvRow_from (bv rs) t r 0 (bv rs t) with h | ⟨i, hi, h3, h4, h5⟩
      · rw [bv, h]
      · exfalso
        have h6 := h2 i (Nat.zero_le _) (by omega)
        rw [Nat.zero_add] at h4 h5
        have h7 : bv (r :: rs) t = r[i] + bv rs (t ||| 1 <<< i) := by rw [bv, h5]
        unfold pickP at h6
        rw [getD_at hi, h4, h7] at h6
        simp [h3] at h6
    · have hp : pickOf r rs t = (i : Int) := h1
      have hi' : i < r.length := by omega
      rw [hp]
      unfold pickP at h2
      rw [getD_at hi'] at h2
      simp only [Bool.and_eq_true, decide_eq_true_eq, Bool.not_eq_true'] at h2
      obtain ⟨⟨h3, h4⟩, h5⟩ := h2
      have e : takeBit t (i : Int) = t ||| 1 <<< i := by simp [takeBit]
      have ih := best_ok rs (t ||| 1 <<< i) (prev ++ [(i : Int)]) (by have := hI.step (x := (i : Int)) (by omega); rwa [e] at this)
      rw [e]
      refine ⟨⟨pick_mk (by omega) (by simpa using hi') ?_ (fun hm => ?_), ih.1⟩, ?_⟩
      · rw [Int.toNat_natCast, getD_at hi']; omega
      · rw [(hI i).2 hm] at h4; cases h4
      · rw [ih.2]; unfold valR; rw [if_pos (by omega), Int.toNat_natCast, getD_at hi']; exact h5
theorem asg_tot {m : List (List Int)} {a : List Int} (ok : okAsg m a = true) : asgVal m a = tot m a := by
  obtain ⟨hom, hl, hp⟩ := okAsg_parts ok
  unfold asgVal; rw [if_pos ok]
  have h1 := tot_take m a hl a.length (Nat.le_refl _)
  rw [List.drop_of_length_le (by omega), List.drop_of_length_le (by omega)] at h1
  simp only [tot] at h1
  omega
theorem asg_le (m : List (List Int)) (a : List Int) : asgVal m a ≤ bestVal m := by
  by_cases ok : okAsg m a = true
  · rw [asg_tot ok]
    obtain ⟨hom, hl, hp⟩ := okAsg_parts ok
    unfold bestVal; rw [if_pos hom]
    exact opt m a 0 [] (by have := okL_of m a hl hp a.length 0 (by omega); simpa using this) (fun c => by simp) (fun r hr => okMat_mem hom hr)
  · unfold asgVal; rw [if_neg ok]
    unfold bestVal
    split
    · rename_i hom
      have := (bv_bd m 0 fun r hr => okMat_mem hom hr).1
      omega
    · exact Int.le_refl _
theorem best_asg {m : List (List Int)} (h : okMat m = true) : okAsg m (bestAsg m) = true ∧ asgVal m (bestAsg m) = bestVal m := by
  have hb : bestAsg m = asgFrom m 0 := by unfold bestAsg; rw [if_pos h]
  rw [hb]
  have k := best_ok m 0 [] (fun c => by simp)
  have ok : okAsg m (asgFrom m 0) = true := okAsg_true h (asgFrom_len m 0) fun j hj => by
    have := okL_pick m _ [] k.1 j hj
    unfold pickAt
    simpa using this
  exact ⟨ok, by rw [asg_tot ok, k.2]; unfold bestVal; rw [if_pos h]⟩
end Go.Proofs.YtfieimmlcopbhaaGreatDoor

namespace Go.Proofs.YtfieimmlcopbhaaGreatDoor
open Go.RowKit

theorem best_len (m : List (List Int)) : (bestAsg m).length ≤ 8 := by
  unfold bestAsg; split
  · rename_i h; rw [asgFrom_len]; exact okMat_len h
  · simp

set_option maxHeartbeats 400000 in
theorem laws_big (v : Value) (bs : List Int) (w : World) (h : Sl u8R w v bs) :
    Calls Tryz.prog 20 #[v] w fun e w2 => e = .returned (.bool (decide (1048576 < bs.length))) ∧ w = w2 := by
  obtain ⟨A, cap, rfl, hm⟩ := h.form
  go_enter Tryz.func20, Tryz.ntmps20
  go_wp2
  go_ret
  exact ⟨ret_bool (by simp; try omega), rfl⟩

end Go.Proofs.YtfieimmlcopbhaaGreatDoor
