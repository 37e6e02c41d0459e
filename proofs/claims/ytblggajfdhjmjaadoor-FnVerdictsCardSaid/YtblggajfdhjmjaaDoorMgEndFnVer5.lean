/-
  SEVERAL SMALL TEXTS LAID TOGETHER: V2, Draw, Env, Door, DrawM, ShW, Big, DoorP, PIa, PIs.
-/
import Derived.Test.YtblggajfdhjmjaaDoorMgEndFnVer1
import Derived.Test.YtblggajfdhjmjaaDoorMgEndFnVer0
import Derived.StillTailTactics
import Derived.Deep.QuietTactic
import Derived.BigQuiet
import Derived.Laws.Bits128
import Derived.Test.YtblggajfdhjmjaaDoorMgEndFnVer2
import Derived.LaidLaws
import Derived.Lay
import Derived.Handed
import Derived.JoinedAt
import Derived.Stop.LaidErr

namespace Go.Proofs.YtblggajfdhjmjaaDoor
open Go.RowKit

def cmpB (a b : Bool) : Int := if a == b then 0 else if b then -1 else 1
/-- the first that is not 0 -/
def firstNZ : List Int → Int
  | [] => 0
  | x :: xs => if x ≠ 0 then x else firstNZ xs
def cmpV (x y : Verdict) : Int := firstNZ [cmpI x.a y.a, cmpI x.b y.b, cmpI x.time y.time, cmpB x.same y.same]

theorem cmpB_64 (a b : Bool) : I64 (cmpB a b) := by unfold I64 cmpB; split <;> (try split) <;> omega

set_option maxHeartbeats 400000 in
theorem cmp_isNaN (a : Int) (w : World) :
    Calls Tryd.prog 53 #[.int .i64 a] w fun e w2 => e = .returned (.bool false) ∧ w = w2 := by
  go_enter Tryd.func53, Tryd.ntmps53
  go_wp2
  all_goals go_ret
  all_goals (refine ⟨?_, rfl⟩; simp)

set_option maxHeartbeats 400000 in
theorem cmp_Compare (a b : Int) (w : World) :
    Calls Tryd.prog 35 #[.int .i64 a, .int .i64 b] w fun e w2 => e = .returned (.int .i64 (cmpI a b)) ∧ w2 = w := by
  go_enter Tryd.func35, Tryd.ntmps35
  go_wp2_with (go_at_call 53; refine (cmp_isNaN _ _).mono ?_; rintro e w2 ⟨rfl, rfl⟩)
  all_goals go_ret
  all_goals refine ⟨?_, rfl⟩
  all_goals (simp_all [cmpI]; try omega)

set_option maxHeartbeats 400000 in
theorem impl_compareSame (a b : Bool) (w : World) :
    Calls Tryd.prog 36 #[.bool a, .bool b] w fun e w2 => e = .returned (.int .i64 (cmpB a b)) ∧ w2 = w := by
  go_enter Tryd.func36, Tryd.ntmps36
  cases a <;> cases b <;> go_wp2
  all_goals go_ret
  all_goals refine ⟨?_, rfl⟩
  all_goals simp [cmpB]

theorem firstNZ_append (l r : List Int) (h : ∀ x ∈ l, x = 0) : firstNZ (l ++ r) = firstNZ r := by
  induction l with
  | nil => rfl
  | cons x l ih => simp [firstNZ, h x (List.mem_cons_self ..), ih (fun y hy => h y (List.mem_cons_of_mem _ hy))]

theorem firstNZ_at (xs : List Int) (k : Nat) (hlt : k < xs.length) (hz : ∀ x ∈ xs.take k, x = 0) (h0 : ¬ xs[k] = 0) : firstNZ xs = xs[k] := by
  have e : xs = xs.take k ++ (xs[k] :: xs.drop (k + 1)) := by simp
  have e2 : firstNZ (xs.take k ++ (xs[k] :: xs.drop (k + 1))) = xs[k] := by
    rw [firstNZ_append _ _ hz]; simp [firstNZ, h0]
  rw [← e] at e2; exact e2
theorem firstNZ_all (xs : List Int) (k : Nat) (hk : ¬ k < xs.length) (hz : ∀ x ∈ xs.take k, x = 0) : firstNZ xs = 0 := by
  rw [List.take_of_length_le (by omega)] at hz
  have := firstNZ_append xs [] hz
  rw [List.append_nil] at this
  exact this

set_option maxHeartbeats 400000 in
theorem cmp_Or (v : Value) (xs : List Int) (w : World) (h : Sl intR w v xs) :
    Calls Tryd.prog 34 #[v] w fun e w2 => e = .returned (.int .i64 (firstNZ xs)) ∧ w = w2 := by
  obtain ⟨A, cap, rfl, hm⟩ := h.form
  go_enter Tryd.func34, Tryd.ntmps34
  go_wp2
  go_loop [5, 8] (fun t i => ∃ k : Nat, k ≤ xs.length ∧ i = .int .i64 k ∧ ∀ x ∈ xs.take k, x = 0) (fun _ i => xs.length - (intOf i).toNat)
  case atStart => exact ⟨0, Nat.zero_le _, rfl, by simp⟩
  case round =>
    obtain ⟨k, hk, rfl, hz⟩ := hrel
    have HZ := hid hz
    clear hz
    by_cases hlt : k < xs.length
    · obtain ⟨b, off, rfl, hb, hc⟩ := h.int hlt
      by_cases h0 : xs[k] = 0
      · have h0' : (xs[k] != 0) = false := by simp [h0]
        have H0 := hid h0
        clear h0
        go_wp2
        go_round
        case rel => exact ⟨k + 1, by omega, by go_num, by
          intro x hx
          rw [List.take_succ_eq_append_getElem hlt] at hx
          rcases List.mem_append.1 hx with hx | hx
          · exact HZ.out x hx
          · simp only [List.mem_singleton] at hx; rw [hx]; exact H0.out⟩
        case measure => simp [intOf]; omega
      · have h0' : (xs[k] != 0) = true := by simp [h0]
        go_wp2
        go_ret
        exact ⟨ret_int (firstNZ_at xs k hlt HZ.out h0).symm, rfl⟩
    · go_wp2
      go_ret
      exact ⟨ret_int (firstNZ_all xs k hlt HZ.out).symm, rfl⟩

set_option maxHeartbeats 400000 in
set_option maxRecDepth 20000 in
theorem impl_CompareVerdicts (x y : Verdict) (w : World) :
    Calls Tryd.prog 16 #[x.val, y.val] w fun e w2 => e = .returned (.int .i64 (cmpV x y)) ∧ Ext w w2 := by
  obtain ⟨a, b, s, t⟩ := x
  obtain ⟨a', b', s', t'⟩ := y
  unfold Verdict.val
  go_enter Tryd.func16, Tryd.ntmps16
  go_wp2
  refine wp_region_still_tail 20 (by kernel_rfl) (by kernel_rfl) ?_
  simp only [List.take_succ_cons, List.take_zero, List.drop_succ_cons, List.drop_zero]
  change wpStill _ _ (World.drew _) _ _ _
  repeat (first | still_step | still_call (cmp_Compare _ _ _) | still_call (impl_compareSame _ _ _))
  refine wpStill_nil ?_
  change wpList _ _ _ _ _ (World.drew _)
  go_wp2_with fail
  refine (cmp_Or _ [cmpI a a', cmpI b b', cmpI t t', cmpB s s'] _ ?_).mono ?_
  · exact (Sl.new_ints _ [cmpI a a', cmpI b b', cmpI t t', cmpB s s'] _ _ _ (by simp) (by simp) (by simp [cmpI_64, cmpB_64]) (by simp [maxLen])).mono (Ext.refl _).drew
  rintro e w2 ⟨rfl, rfl⟩
  go_wp2
  go_ret
  exact ⟨ret_int rfl, (by repeat (first | with_reducible exact Ext.refl _ | with_reducible assumption | with_reducible refine Ext.drew ?_ | with_reducible refine Ext.alloc ?_ _ | with_reducible refine Ext.trans ?_ (by with_reducible assumption)))⟩

set_option maxHeartbeats 400000 in
set_option maxRecDepth 20000 in
theorem spec_CompareVerdicts (x y : Verdict) (w : World) :
    Calls Tryd.prog 26 #[x.val, y.val] w fun e w2 => e = .returned (.int .i64 (cmpV x y)) ∧ Ext w w2 := by
  obtain ⟨a, b, s, t⟩ := x
  obtain ⟨a', b', s', t'⟩ := y
  unfold Verdict.val
  go_enter Tryd.func26, Tryd.ntmps26
  go_wp2_with (go_at_call 45; refine (spec_l8Int _ _ _).mono ?_; rintro e w2 ⟨rfl, rfl⟩)
  all_goals go_ret
  all_goals refine ⟨ret_int ?_, (by repeat (first | with_reducible exact Ext.refl _ | with_reducible assumption | with_reducible refine Ext.drew ?_ | with_reducible refine Ext.alloc ?_ _ | with_reducible refine Ext.trans ?_ (by with_reducible assumption)))⟩
  all_goals (simp_all [cmpV, firstNZ, cmpB]; done)

end Go.Proofs.YtblggajfdhjmjaaDoor

namespace Go.Proofs.YtblggajfdhjmjaaDoor
open Go.RowKit

def u8R : Rep Int := ⟨1, fun _ cs x => cs = [.int .u8 x] ∧ 0 ≤ x ∧ x ≤ 255, fun h => by simp [h.1], fun _ h => h⟩
theorem reads_u8 {P : Program} {e : TypeId} (he : P.underlying e = some (.int .u8)) (hc : P.cellsOf e = 1) : Reads P e u8R :=
  ⟨hc, fun h => by
    obtain ⟨n, rfl, _, hw⟩ := DataW.trod_int he h
    exact ⟨n, rfl, by simpa [Lit.wf, IntKind.min, IntKind.max, IntKind.signed, IntKind.bits] using hw⟩⟩
theorem Sl.u8 {w : World} {A : Option Addr} {n cap : Nat} {xs : List Int} (h : Sl u8R w (.slice A n cap) xs) {i : Nat} (hi : i < xs.length) :
    ∃ b off, A = some ⟨b, off, none⟩ ∧ (0 ≤ xs[i] ∧ xs[i] ≤ 255) ∧ w.cell? ⟨b, off + i, none⟩ = some (.int .u8 xs[i]) := by
  obtain ⟨b, off, cs, rfl, ⟨rfl, hr⟩, hc⟩ := h.at_ hi
  exact ⟨b, off, rfl, hr, by simpa [u8R] using hc 0 (by simp [u8R])⟩
theorem rU8 : Reads Tryd.prog 5 u8R := reads_u8 Tryd.underlying5 (by kernel_rfl)
theorem rBytes : Reads Tryd.prog 22 (slR u8R) := reads_slice Tryd.underlying22 (by kernel_rfl) (by decide) rU8

theorem i64_and255 (n : Int) : bits .and .i64 n 255 = n % 256 := by
  have h255 : (BitVec.ofInt 64 255).toNat = 2 ^ 8 - 1 := by decide
  have key : (BitVec.ofInt 64 n &&& BitVec.ofInt 64 255).toNat = (n % ((2 ^ 64 : Nat) : Int)).toNat % 2 ^ 8 := by
    rw [BitVec.toNat_and, BitVec.toNat_ofInt, h255, Nat.and_two_pow_sub_one_eq_mod]
  show IntKind.i64.wrap ((BitVec.ofInt 64 n &&& BitVec.ofInt 64 255).toNat : Nat) = n % 256
  rw [key, IntKind.wrap_i64]
  omega
theorem i64_and30 (n : Int) : bits .and .i64 n 1073741823 = n % 1073741824 := by
  have h255 : (BitVec.ofInt 64 1073741823).toNat = 2 ^ 30 - 1 := by decide
  have key : (BitVec.ofInt 64 n &&& BitVec.ofInt 64 1073741823).toNat = (n % ((2 ^ 64 : Nat) : Int)).toNat % 2 ^ 30 := by
    rw [BitVec.toNat_and, BitVec.toNat_ofInt, h255, Nat.and_two_pow_sub_one_eq_mod]
  show IntKind.i64.wrap ((BitVec.ofInt 64 n &&& BitVec.ofInt 64 1073741823).toNat : Nat) = n % 1073741824
  rw [key, IntKind.wrap_i64]
  omega

/-- the cursor lies in block g; its bytes lie in w0 -/
def Cur (w0 w : World) (g : Nat) : Prop := ∃ (A : Option Addr) (cap : Nat) (bs : List Int) (p : Nat) (h : Int), Sl u8R w0 (.slice A bs.length cap) bs ∧ Ext w0 w ∧ w0.heap.size ≤ g ∧
  Blk w g 60 [.slice A bs.length cap, .int .i64 p, .int .i64 h] ∧ p ≤ bs.length ∧ I64 h
/-- all old blocks stand but g -/
def Kept (g : Nat) (w w2 : World) : Prop := w.heap.size ≤ w2.heap.size ∧ ∀ b, b < w.heap.size → b ≠ g → w2.heap[b]? = w.heap[b]?
theorem Kept.refl (g : Nat) (w : World) : Kept g w w := ⟨Nat.le_refl _, fun _ _ _ => rfl⟩
theorem Kept.trans {g : Nat} {a b c : World} (h : Kept g a b) (k : Kept g b c) : Kept g a c := ⟨Nat.le_trans h.1 k.1, fun i hi hg => (k.2 i (Nat.lt_of_lt_of_le hi h.1) hg).trans (h.2 i hi hg)⟩
theorem Ext.kept {g : Nat} {a b : World} (h : Ext a b) : Kept g a b := ⟨h.size, fun _ hi _ => h.block hi⟩
theorem Kept.set (g k : Nat) (u : Value) (w : World) : Kept g w (w.setCell ⟨g, k, none⟩ u) := ⟨by simp, fun b _ hb => keep_setCell hb⟩
theorem Cur.keep {w0 w w2 : World} {g : Nat} (h : Cur w0 w g) (x : Ext w0 w2) (k : w2.heap[g]? = w.heap[g]?) : Cur w0 w2 g :=
  let ⟨A, cap, bs, p, hh, h1, _, h3, h4, h5⟩ := h; ⟨A, cap, bs, p, hh, h1, x, h3, h4.keep k, h5⟩
theorem Cur.ext {w0 w w2 : World} {g : Nat} (h : Cur w0 w g) (x : Ext w w2) : Cur w0 w2 g := by
  obtain ⟨A, cap, bs, p, hh, h1, h2, h3, h4, h5⟩ := h
  exact ⟨A, cap, bs, p, hh, h1, h2.trans x, h3, h4.ext x, h5⟩

set_option maxHeartbeats 400000 in
set_option maxRecDepth 20000 in
theorem spec_l1Byte (w0 w : World) (g : Nat) (hc : Cur w0 w g) :
    Calls Tryd.prog 56 #[.pointer (some ⟨g, 0, none⟩)] w fun e w2 => ∃ x, e = .returned (.int .i64 x) ∧ (0 ≤ x ∧ x ≤ 255) ∧ Cur w0 w2 g ∧ Kept g w w2 := by
  obtain ⟨A, cap, bs, p, h, hb, hx, hg, hB, hp, hI⟩ := hc
  have hm := hb.cap_
  have hI' := hI.out
  obtain ⟨c0, f0⟩ := hB.cells
  have c2 : w.cell? ⟨g, 2, none⟩ = some (.int .i64 h) := c0 2
  have f2 : w.frozen? ⟨g, 2, none⟩ = false := f0 2
  clear c0 f0
  obtain ⟨u, hu⟩ : ∃ u, u = wrap64 (wrap64 (h * 6364136223846793005) + 1442695040888963407) := ⟨_, rfl⟩
  have HU := hid hu
  have S1 : Blk (w.setCell ⟨g, 2, none⟩ (.int .i64 u)) g 60 [.slice A bs.length cap, .int .i64 p, .int .i64 u] := Blk.store (done := [.slice A bs.length cap, .int .i64 p]) (z := .int .i64 h) (rest := []) (k := 2) hB rfl (.int .i64 u)
  obtain ⟨W1, hW⟩ : ∃ W1, W1 = w.setCell ⟨g, 2, none⟩ (.int .i64 u) := ⟨_, rfl⟩
  have hu64 : I64 u := by rw [hu]; unfold I64 wrap64; omega
  have hx1 : Ext w0 W1 := by rw [hW]; exact hx.setCell (by simpa using hg) _
  have hk1 : Kept g w W1 := by rw [hW]; exact Kept.set _ _ _ _
  rw [← hW] at S1
  have HW := hid hW
  clear hu hW
  obtain ⟨c0, f0⟩ := S1.cells
  have d0 : ∀ z : ExtOf W1, z.1.cell? ⟨g, 0, none⟩ = some (.slice A bs.length cap) := fun z => z.2.cell (c0 0)
  have d1 : ∀ z : ExtOf W1, z.1.cell? ⟨g, 1, none⟩ = some (.int .i64 p) := fun z => z.2.cell (c0 1)
  have d2 : ∀ z : ExtOf W1, z.1.cell? ⟨g, 2, none⟩ = some (.int .i64 u) := fun z => z.2.cell (c0 2)
  clear c0 f0
  by_cases hlt : p < bs.length
  · obtain ⟨b, off, rfl, hbd, hcb⟩ := hb.u8 hlt
    have d3 : ∀ z : ExtOf W1, z.1.cell? ⟨b, off + p, none⟩ = some (.int .u8 bs[p]) := fun z => (hx1.trans z.2).cell hcb
    go_enter Tryd.func56, Tryd.ntmps56
    go_wp2_with fail
    rw [← HU.out, ← HW.out]
    refine wp_region_ext (by kernel_rfl) (by kernel_rfl) ?_
    repeat (go_big_quiet_step ((fail)))
    refine wpQuiet_nil ?_
    rintro w4 ⟨⟨_, x4⟩, rfl⟩
    have e0 : ∀ z : ExtOf w4, z.1.cell? ⟨g, 0, none⟩ = some (.slice (some ⟨b, off, none⟩) bs.length cap) := fun z => d0 ⟨_, x4.trans z.2⟩
    have e1 : ∀ z : ExtOf w4, z.1.cell? ⟨g, 1, none⟩ = some (.int .i64 p) := fun z => d1 ⟨_, x4.trans z.2⟩
    go_wp2_with fail
    refine wp_region_ext (by kernel_rfl) (by kernel_rfl) ?_
    repeat (go_big_quiet_step ((fail)))
    refine wpQuiet_nil ?_
    rintro w5 ⟨⟨_, x5⟩, rfl⟩
    have k0 : ∀ z : ExtOf w5, z.1.cell? ⟨g, 0, none⟩ = some (.slice (some ⟨b, off, none⟩) bs.length cap) := fun z => e0 ⟨_, x5.trans z.2⟩
    have k1 : ∀ z : ExtOf w5, z.1.cell? ⟨g, 1, none⟩ = some (.int .i64 p) := fun z => e1 ⟨_, x5.trans z.2⟩
    have k3 : ∀ z : ExtOf w5, z.1.cell? ⟨b, off + p, none⟩ = some (.int .u8 bs[p]) := fun z => d3 ⟨_, (x4.trans x5).trans z.2⟩
    go_wp2_with fail
    refine wp_region_ext (by kernel_rfl) (by kernel_rfl) ?_
    repeat (go_big_quiet_step ((fail)))
    refine wpQuiet_nil ?_
    rintro w6 ⟨⟨_, x6⟩, rfl⟩
    have S6 := S1.ext ((x4.trans x5).trans x6)
    have m1 := (S6.cells).1 1
    have n1 := (S6.cells).2 1
    have m1 : w6.cell? ⟨g, 1, none⟩ = some (.int .i64 p) := m1
    go_wp2
    go_ret
    refine ⟨_, rfl, ?_, ⟨_, _, bs, p + 1, u, hb, ((hx1.trans ((x4.trans x5).trans x6)).setCell (by simpa using hg) _), hg, ?_, hlt, hu64⟩, (hk1.trans ((x4.trans x5).trans x6).kept).trans (Kept.set _ _ _ _)⟩
    · rw [i64_and255]; omega
    · have := Blk.store (done := [.slice (some ⟨b, off, none⟩) bs.length cap]) (z := .int .i64 p) (rest := [.int .i64 u]) (k := 1) S6 rfl (.int .i64 ((p : Int) + 1))
      exact this
  · go_enter Tryd.func56, Tryd.ntmps56
    go_wp2_with fail
    rw [← HU.out, ← HW.out]
    refine wp_region_ext (by kernel_rfl) (by kernel_rfl) ?_
    repeat (go_big_quiet_step ((fail)))
    refine wpQuiet_nil ?_
    rintro w4 ⟨⟨_, x4⟩, rfl⟩
    have e0 : ∀ z : ExtOf w4, z.1.cell? ⟨g, 0, none⟩ = some (.slice A bs.length cap) := fun z => d0 ⟨_, x4.trans z.2⟩
    have e1 : ∀ z : ExtOf w4, z.1.cell? ⟨g, 1, none⟩ = some (.int .i64 p) := fun z => d1 ⟨_, x4.trans z.2⟩
    go_wp2_with fail
    refine wp_region_ext (by kernel_rfl) (by kernel_rfl) ?_
    repeat (go_big_quiet_step ((fail)))
    refine wpQuiet_nil ?_
    rintro w5 ⟨⟨_, x5⟩, rfl⟩
    go_wp2
    go_ret
    refine ⟨_, rfl, ?_, ⟨_, _, bs, p, u, hb, hx1.trans (x4.trans x5), hg, S1.ext (x4.trans x5), hp, hu64⟩, hk1.trans (x4.trans x5).kept⟩
    rw [i64_and255]; omega

set_option maxHeartbeats 400000 in
theorem spec_l1Below (w0 w : World) (g : Nat) (n : Int) (hn : 1 ≤ n ∧ n ≤ 256) (hc : Cur w0 w g) :
    Calls Tryd.prog 40 #[.pointer (some ⟨g, 0, none⟩), .int .i64 n] w fun e w2 => ∃ x, e = .returned (.int .i64 x) ∧ (0 ≤ x ∧ x < n) ∧ Cur w0 w2 g ∧ Kept g w w2 := by
  have hz : ¬ n = 0 := by omega
  go_enter Tryd.func40, Tryd.ntmps40
  go_wp2_with fail
  refine (spec_l1Byte w0 w g hc).mono ?_
  rintro e w2 ⟨x, rfl, hx, hc2, hk⟩
  go_wp2
  go_ret
  refine ⟨_, rfl, ?_, hc2, hk⟩
  first | exact ⟨Int.tmod_nonneg _ hx.1, Int.tmod_lt_of_pos _ (by omega)⟩ | exact ⟨Int.emod_nonneg _ (by omega), Int.emod_lt_of_pos _ (by omega)⟩

set_option maxHeartbeats 400000 in
theorem spec_l1Once (w0 w : World) (g : Nat) (n : Int) (hn : 1 ≤ n ∧ n ≤ 256) (hc : Cur w0 w g) :
    Calls Tryd.prog 38 #[.pointer (some ⟨g, 0, none⟩), .int .i64 n] w fun e w2 => ∃ x, e = .returned (.bool x) ∧ Cur w0 w2 g ∧ Kept g w w2 := by
  go_enter Tryd.func38, Tryd.ntmps38
  go_wp2_with fail
  refine (spec_l1Below w0 w g n hn hc).mono ?_
  rintro e w2 ⟨x, rfl, hx, hc2, hk⟩
  go_wp2
  go_ret
  exact ⟨_, rfl, hc2, hk⟩
end Go.Proofs.YtblggajfdhjmjaaDoor

namespace Go.Proofs.YtblggajfdhjmjaaDoor
open Go.RowKit

/-- the two errors of strconv hold interface values -/
def EV (w : World) : Prop := (∃ tp p, w.cell? ⟨2, 0, none⟩ = some (.iface tp p)) ∧ ∃ tp p, w.cell? ⟨3, 0, none⟩ = some (.iface tp p)
theorem EV.mono {w w2 : World} (e : Ext w w2) (h : EV w) : EV w2 := by
  obtain ⟨⟨a, b, h1⟩, c, d, h2⟩ := h
  exact ⟨⟨a, b, e.cell h1⟩, c, d, e.cell h2⟩
structure Env (w : World) : Prop where
  T : Tab w
  M : ML w
  V : EV w
theorem Env.mono {w w2 : World} (e : Ext w w2) (h : Env w) : Env w2 := ⟨h.T.mono e, h.M.mono e, h.V.mono e⟩
end Go.Proofs.YtblggajfdhjmjaaDoor

namespace Go.Proofs.YtblggajfdhjmjaaDoor
open Go.RowKit

theorem tab_mem {P : Program} {w : World} {name : String} {k : IntKind} {zs : List Int} {t e : TypeId} {n g : Nat}
    (hg : P.globalNamed name = some g) (hty : (P.globals[g]?).map (·.type) = some t) (ht : P.underlying t = some (.array n e)) (he : P.underlying e = some (.int k)) (hce : P.cellsOf e = 1) (hct : P.cellsOf t = n) :
    ∀ {l : List (String × DataW Unit)} {ps : List MemPlace}, DataW.LaidVars P w l ps → (name, Go.Lib.tabData k zs) ∈ l → Go.Lib.TabIs P w name k zs
  | [], _, _, hm => by cases hm
  | (n2, d2) :: r, ps, h, hm => by
    obtain ⟨g', t', cs, fuel, p, q, hg', ht', hvar, hd, h5, _⟩ := h
    rcases List.mem_cons.1 hm with hm | hm
    · injection hm with e1 e2
      subst e1
      subst e2
      obtain rfl := Option.some.inj (hg.symm.trans hg')
      obtain rfl := Option.some.inj (hty.symm.trans ht')
      unfold Go.Lib.TabIs
      rw [hvar, ← Go.Lib.cells_of_tab ht he hce hct hd]
    · exact tab_mem hg hty ht he hce hct h5 hm
end Go.Proofs.YtblggajfdhjmjaaDoor

namespace Go.Proofs.YtblggajfdhjmjaaDoor
open Go.RowKit

theorem Cur.base {w0 w : World} {g : Nat} (h : Cur w0 w g) : Ext w0 w ∧ w0.heap.size ≤ g ∧ g < w.heap.size := by
  obtain ⟨A, cap, bs, p, hh, h1, h2, h3, h4, h5⟩ := h
  exact ⟨h2, h3, block_lt h4⟩
theorem Bld.kept {α : Type} {R : RepO α} {w w2 : World} {base g : Nat} {e : TypeId} {v : Value} {xs : List α} {F : List Nat} (h : Bld R w base e v xs F) (hg : g < base) (k : Kept g w w2) : Bld R w2 base e v xs F :=
  h.keep fun b hb hl => k.2 b hl (by omega)
theorem OwnSl.kept {α : Type} {R : RepO α} {w w2 : World} {g : Nat} {v : Value} {xs : List α} {F : List Nat} (h : OwnSl R w v xs F) (hg : g ∉ F) (k : Kept g w w2) : OwnSl R w2 v xs F :=
  h.keep fun b hb => k.2 b (h.lt b hb) (fun e => hg (e ▸ hb))
/-- an append; what it leaves, block by block -/
theorem wpList_app1g {P : Program} {α : Type} {R : RepO α} {ops : Array Oper} {rest : List Oper} {o : Oper} {a : Act} {W : World} {Q : Exit → Act → World → Prop} {t e : TypeId} {bytes : Nat} (E : ElemT P t e R.n bytes) (hsz : 0 < R.n)
    (hgd : o.guard = none) (s x : Operand) (ho : o.op = .call { callee := .builtin .append, args := #[s, x], argTypes := #[t, t] })
    {base : Nat} {v : Value} {xs : List α} {F : List Nat} (hb : Bld R W base e v xs F) (hs : a.eval s = v) {c : Array Value} {T : TypeId} (g k : Nat) (hx : a.eval x = .slice (some ⟨g, 0, none⟩) 1 k) (hg : g = W.heap.size)
    (h1 : ∀ u ∈ c.toList, u.oneCell' = true) {y : α} {G : List Nat} (hy : R.own W c.toList y G) (hG : (∀ b ∈ G, b ∉ F ∧ v.ownBlock ≠ some b) ∧ G.Nodup ∧ ∀ b ∈ G, base ≤ b)
    (hbytes : xs.length + 1 ≤ 1099511627776) (hby : bytes ≤ 128) (hbase : base ≤ W.heap.size)
    (h : ∀ v' w', Bld R w' base e v' (xs ++ [y]) (F ++ G) → (∀ w0 : World, w0.heap.size ≤ base → Ext w0 W → Ext w0 w') → W.heap.size ≤ w'.heap.size → (∀ b, b < base → w'.heap[b]? = W.heap[b]?) → wpList P ops Q rest (a.put o.dst v') w') :
    wpList P ops Q (o :: rest) a (W.alloc (.cells c T)) := by
  obtain ⟨ht, i, z, hi, hz, hsize, hby2, hzs⟩ := E
  have x1 : Ext W (W.alloc (.cells c T)) := (Ext.refl W).alloc _
  have hb1 := hb.ext x1
  have hl := hb1.lt
  obtain ⟨cs, b1, b2, b3, b4, b5⟩ := hb1
  have hy1 : R.own (W.alloc (.cells c T)) c.toList y G := R.own_keep (fun b hb => x1.block (R.own_lt hy b hb)) hy
  refine wpList_append_own_at (W.alloc (.cells c T)) hgd s x t ho base e i z R.n bytes ht hi hz hsize hby2 hzs hsz v xs.length cs hs b1 ⟨g, 0, none⟩ 1 k c.toList hx (by rw [R.len (R.own_rd hy), Nat.one_mul]) (fun j u hj => ?_) h1
    (by unfold maxLen; omega) (Nat.le_trans (Nat.mul_le_mul hbytes hby) (by decide)) (Nat.le_trans hbase x1.size) ?_
  · subst hg
    have : (W.alloc (.cells c T)).cell? ⟨W.heap.size, j, none⟩ = c[j]? := ((Ext.refl (W.alloc (.cells c T))).box).1 j
    rw [add_eq, Nat.zero_add, this]
    simpa using hj
  · intro v' w' hown hgr _ hat
    obtain ⟨h5, h6⟩ := bld_grown hl b2 b3 b4 b5 hy1 hG hown hgr hat
    refine h _ _ h5 (fun w0 h7 h8 => h6 w0 h7 (h8.trans x1)) (Nat.le_trans x1.size hgr.size) fun b hb => ?_
    have hbW : b < W.heap.size := by omega
    rw [hgr.block b (Nat.lt_of_lt_of_le hbW x1.size) (fun e => by have := (hl.2 b e.symm).2; omega), x1.block hbW]

set_option maxHeartbeats 400000 in
theorem spec_l1PickInt (w0 w : World) (g : Nat) (v : Value) (xs : List Int) (hl : 1 ≤ xs.length ∧ xs.length ≤ 256) (hc : Cur w0 w g) (hs : ∀ w2, Kept g w w2 → Sl intR w2 v xs) :
    Calls Tryd.prog 55 #[.pointer (some ⟨g, 0, none⟩), v] w fun e w2 => ∃ x, e = .returned (.int .i64 x) ∧ I64 x ∧ Cur w0 w2 g ∧ Kept g w w2 := by
  obtain ⟨A, cap, rfl, hm⟩ := (hs w (Kept.refl _ _)).form
  go_enter Tryd.func55, Tryd.ntmps55
  go_wp2_with fail
  refine (spec_l1Below w0 w g xs.length (by omega) hc).mono ?_
  rintro e w2 ⟨x, rfl, hx, hc2, hk⟩
  obtain ⟨j, rfl⟩ : ∃ j : Nat, x = j := ⟨x.toNat, by omega⟩
  have hj : j < xs.length := by omega
  obtain ⟨b, off, rfl, hI, hcell⟩ := (hs w2 hk).int hj
  go_wp2
  go_ret
  exact ⟨_, rfl, hI, hc2, hk⟩

set_option maxHeartbeats 400000 in
set_option maxRecDepth 20000 in
theorem spec_l1New (w : World) (v : Value) (bs : List Int) (h : Sl u8R w v bs) :
    Calls Tryd.prog 17 #[v] w fun e w2 => e = .returned (.pointer (some ⟨w.heap.size, 0, none⟩)) ∧ Cur w w2 w.heap.size ∧ Ext w w2 := by
  obtain ⟨A, cap, rfl, hm⟩ := h.form
  go_enter Tryd.func17, Tryd.ntmps17
  go_wp2
  go_loop [3, 4] (fun x i => ∃ (k : Nat) (u : Int), k ≤ bs.length ∧ i = .int .i64 k ∧ x = .int .i64 u ∧ I64 u) (fun _ i => bs.length - (intOf i).toNat)
  case atStart => exact ⟨0, _, Nat.zero_le _, rfl, rfl, by unfold I64; first | omega | (unfold wrap64; omega)⟩
  case round =>
    obtain ⟨k, u, hk, rfl, rfl, hu⟩ := hrel
    have hu' := hu.out
    by_cases hlt : k < bs.length
    · by_cases h4 : k < 4000
      · obtain ⟨b, off, rfl, hbd, hcb⟩ := h.u8 hlt
        go_wp2
        go_round
        case rel => exact ⟨k + 1, _, by omega, by go_num, rfl, by rw [i64_and30]; unfold I64; omega⟩
        case measure => simp [intOf]; omega
      · go_wp2
        go_ret
        exact ⟨rfl, ⟨A, cap, bs, 0, u, h, (Ext.refl _).alloc _, Nat.le_refl _, Blk.new w _ _, Nat.zero_le _, hu⟩, (Ext.refl _).alloc _⟩
    · go_wp2
      go_ret
      exact ⟨rfl, ⟨A, cap, bs, 0, u, h, (Ext.refl _).alloc _, Nat.le_refl _, Blk.new w _ _, Nat.zero_le _, hu⟩, (Ext.refl _).alloc _⟩

theorem lit_kept {w w2 : World} {g : Nat} {T : TypeId} {xs : List Int} {cs : Array Value} (hcs : cs.toList = xs.map (Value.int .i64)) (h : ∀ x ∈ xs, I64 x) (hl : xs.length ≤ maxLen) (hg : g < w.heap.size) (k : Kept g (w.alloc (.cells cs T)) w2) :
    OwnSl intO w2 (.slice (some ⟨w.heap.size, 0, none⟩) xs.length xs.length) xs [w.heap.size] := by
  have hb := Blk.new w T cs
  rw [hcs] at hb
  exact (OwnSl.of_blk hb hl (ints_cells _ _ h)).kept (by simp; omega) k

end Go.Proofs.YtblggajfdhjmjaaDoor

namespace Go.Proofs.YtblggajfdhjmjaaDoor
open Go.RowKit

theorem strings_Cut_c (s : ByteArray) (c : UInt8) (w : World) (hs : s.size ≤ 1048600) (M : ML w) :
    Calls Tryd.prog 31 #[.string s, .string ⟨#[c]⟩] w fun e w2 => e = .returned (.tuple #[.string (bs (Go.Lib.cut s.data.toList [c]).1), .string (bs (Go.Lib.cut s.data.toList [c]).2.1), .bool (Go.Lib.cut s.data.toList [c]).2.2]) ∧ Ext w w2 := by
  obtain ⟨m, hm⟩ := M
  exact (Any.strings_Cut lShCut s ⟨#[c]⟩ m w (by omega) hm).mono fun _ _ ⟨he, n, hw⟩ => ⟨he, by rw [hw]; exact (Ext.refl w).drewN n⟩

theorem strconv_Atoi_ok_c (s : ByteArray) (v : Int) (w : World) (hs : s.size ≤ 1048600) (h : Go.Lib.atoiAll s.data.toList = .ok v) :
    Calls Tryd.prog 64 #[.string s] w fun e w2 => e = .returned (.tuple #[.int .i64 v, .nilIface]) ∧ Ext w w2 :=
  (Any.strconv_Atoi_ok lShAtoi s (by omega) v h w).mono fun _ _ ⟨he, hw⟩ => ⟨he, by
    rcases hw with rfl | ⟨t, rfl⟩
    · exact Ext.refl _
    · exact Go.Lib.bytesWorld_below _ _ _⟩
theorem strconv_Atoi_err_c (s : ByteArray) (w : World) (hs : s.size ≤ 1048600) (h : ∀ v, Go.Lib.atoiAll s.data.toList ≠ .ok v) (V : EV w) :
    Calls Tryd.prog 64 #[.string s] w fun e w2 => ∃ n t p, e = .returned (.tuple #[.int .i64 n, .iface t p]) ∧ I64 n ∧ Ext w w2 := by
  obtain ⟨⟨tp, p, h1⟩, tq, q, h2⟩ := V
  rcases hc : Go.Lib.atoiAll s.data.toList with v | _ | _
  · exact absurd hc (h v)
  · exact (Any.strconv_Atoi_syntax lShAtoi s (by omega) hc _ w h1 (.inr ⟨tp, p, rfl⟩)).mono fun _ _ ⟨N, he, _, _, hb⟩ => ⟨_, _, _, he, by unfold I64; omega, hb⟩
  · exact (Any.strconv_Atoi_range lShAtoi s (by omega) hc _ w h2 (.inr ⟨tq, q, rfl⟩)).mono fun _ _ ⟨N, he, _, _, hb⟩ => ⟨_, _, _, he, Go.Lib.atoiSat_bounds _, hb⟩
end Go.Proofs.YtblggajfdhjmjaaDoor

namespace Go.Proofs.YtblggajfdhjmjaaDoor
open Go.RowKit

set_option maxHeartbeats 400000 in
theorem laws_big (v : Value) (bs : List Int) (w : World) (h : Sl u8R w v bs) :
    Calls Tryd.prog 4 #[v] w fun e w2 => e = .returned (.bool (decide (1048576 < bs.length))) ∧ w = w2 := by
  obtain ⟨A, cap, rfl, hm⟩ := h.form
  go_enter Tryd.func4, Tryd.ntmps4
  go_wp2
  go_ret
  exact ⟨ret_bool (by simp; try omega), rfl⟩
end Go.Proofs.YtblggajfdhjmjaaDoor

namespace Go.Proofs.YtblggajfdhjmjaaDoor
open Go.RowKit

theorem star_err : "*" ++ "errors.errorString" = "*errors.errorString" := by decide
theorem row_err (u : TypeId) (h : Tryd.prog.typeName? 3 u = some "*errors.errorString") : u = 117 :=
  typeName_ptr_named (nm := "errors.errorString") (by rw [star_err]; kernel_rfl) (by kernel_rfl) (by decide) u (by rw [star_err]; exact h)
theorem ev_sent {n : String} {g : Nat} {text : List UInt8} {r : List (String × DataW Unit)} {W : World}
    (h : laidMet Tryd.prog ((n, .iface "*errors.errorString" (.ptr (.agg [.lit (.string text)]))) :: r) W) (hg : Tryd.prog.globalNamed n = some g) (ht : (Tryd.prog.globals[g]?).map (·.type) = some 82) :
    ∃ tp p, W.cell? ⟨g, 0, none⟩ = some (.iface tp p) := by
  obtain ⟨a, s, hv, _⟩ := laid_sentinel h hg ht Tryd.underlying82 row_err Tryd.underlying117 Tryd.underlying119 rfl rfl Tryd.underlying9 (by kernel_rfl) (by kernel_rfl)
  exact ⟨_, _, by simpa using World.var?_cell hg hv 0⟩
end Go.Proofs.YtblggajfdhjmjaaDoor

namespace Go.Proofs.YtblggajfdhjmjaaDoor
open Go.RowKit

theorem impl_ParseInt (s : ByteArray) (w : World) (hs : s.size ≤ 1048600) (N : Env w) :
    Calls Tryd.prog 52 #[.string s] w fun e w2 => e = .returned (.tuple #[.int .i64 (pI s).1, .bool (pI s).2]) ∧ Ext w w2 := by
  by_cases hok : ∃ v, Go.Lib.atoiAll s.data.toList = .ok v
  · obtain ⟨v, hv⟩ := hok
    have hI : I64 v := Go.Lib.atoiAll_bounds hv
    have HI := hid hI
    have HV := hid hv
    by_cases h1 : itoaS v = s
    · have hq := str_eq h1
      have hq2 : (itoaS v).toList = s.toList := by rw [h1]
      by_cases h2 : inB v (-999999999) 999999999 = true
      · have hp := hid (pI_hit (s := s) (n := v) ⟨by unfold inB at h2; exact of_decide_eq_true h2, h1⟩)
        have H1 := hid h1
        clear hv h1 hI
        go_enter Tryd.func52, Tryd.ntmps52
        go_wp2_with fail
        refine (strconv_Atoi_ok_c s v _ hs HV.out).mono ?_
        rintro e w2 ⟨rfl, x2⟩
        go_wp2_with fail
        refine (impl_FormatInt _ _ HI.out (N.T.mono x2)).mono ?_
        rintro e w3 ⟨rfl, x3⟩
        go_wp2_with fail
        refine (impl_within _ _ _ _).mono ?_
        rintro e w4 ⟨rfl, rfl⟩
        rw [h2]
        go_wp2
        refine bodyPost_ret (v := .tuple #[.int .i64 v, .bool true]) (by simp [results, Tryd.results52, go_sem]) rfl ?_
        exact ⟨by rw [hp.out], x2.trans x3⟩
      · have h2' : inB v (-999999999) 999999999 = false := by simpa using h2
        have hp := hid (pI_no (s := s) fun n hn => h2 (by
          have := hn.atoi.symm.trans hv
          injection this with this
          subst this
          unfold inB
          exact decide_eq_true hn.1))
        have H1 := hid h1
        clear hv h1 hI h2
        go_enter Tryd.func52, Tryd.ntmps52
        go_wp2_with fail
        refine (strconv_Atoi_ok_c s v _ hs HV.out).mono ?_
        rintro e w2 ⟨rfl, x2⟩
        go_wp2_with fail
        refine (impl_FormatInt _ _ HI.out (N.T.mono x2)).mono ?_
        rintro e w3 ⟨rfl, x3⟩
        go_wp2_with fail
        refine (impl_within _ _ _ _).mono ?_
        rintro e w4 ⟨rfl, rfl⟩
        rw [h2']
        go_wp2
        refine bodyPost_ret (v := .tuple #[.int .i64 0, .bool false]) (by simp [results, Tryd.results52, go_sem]) rfl ?_
        exact ⟨by rw [hp.out], x2.trans x3⟩
    · have hq := str_ne h1
      have hp := hid (pI_no (s := s) fun n hn => h1 (by
        have := hn.atoi.symm.trans hv
        injection this with this
        subst this
        exact hn.2))
      have H1 := hid h1
      clear hv h1 hI
      go_enter Tryd.func52, Tryd.ntmps52
      go_wp2_with fail
      refine (strconv_Atoi_ok_c s v _ hs HV.out).mono ?_
      rintro e w2 ⟨rfl, x2⟩
      go_wp2_with fail
      refine (impl_FormatInt _ _ HI.out (N.T.mono x2)).mono ?_
      rintro e w3 ⟨rfl, x3⟩
      go_wp2
      refine bodyPost_ret (v := .tuple #[.int .i64 0, .bool false]) (by simp [results, Tryd.results52, go_sem]) rfl ?_
      exact ⟨by rw [hp.out], x2.trans x3⟩
  · have hno : ∀ v, Go.Lib.atoiAll s.data.toList ≠ .ok v := fun v hv => hok ⟨v, hv⟩
    have hp := hid (pI_no (s := s) fun n hn => hok ⟨n, hn.atoi⟩)
    have HN := hid hno
    clear hno hok
    go_enter Tryd.func52, Tryd.ntmps52
    go_wp2_with fail
    refine (strconv_Atoi_err_c s _ hs HN.out N.V).mono ?_
    rintro e w2 ⟨n, t, p, rfl, hn, x2⟩
    go_wp2
    refine bodyPost_ret (v := .tuple #[.int .i64 0, .bool false]) (by simp [results, Tryd.results52, go_sem]) rfl ?_
    exact ⟨by rw [hp.out], x2⟩
end Go.Proofs.YtblggajfdhjmjaaDoor

namespace Go.Proofs.YtblggajfdhjmjaaDoor
open Go.RowKit

/-- parseInts' answer -/
noncomputable def pIs (ws : List ByteArray) : List Int × Bool := if (ws.all fun s => (pI s).2) = true then (ws.map (fun s => (pI s).1), true) else ([], false)
theorem pIs_yes {ws : List ByteArray} (h : ∀ s ∈ ws, (pI s).2 = true) : pIs ws = (ws.map (fun s => (pI s).1), true) := by unfold pIs; rw [if_pos (List.all_eq_true.2 h)]
theorem pIs_no {ws : List ByteArray} {k : Nat} (hk : k < ws.length) (h : (pI ws[k]).2 = false) : pIs ws = ([], false) := by
  unfold pIs
  rw [if_neg]
  intro h9
  have := List.all_eq_true.1 h9 ws[k] (List.getElem_mem hk)
  rw [h] at this; cases this
theorem OwnSl.nilS {α : Type} (R : RepO α) (w : World) : OwnSl R w (.slice none 0 0) ([] : List α) [] := .inl ⟨rfl, rfl, .none, 0, rfl, Nat.zero_le _⟩

set_option maxHeartbeats 400000 in
set_option maxRecDepth 20000 in
theorem impl_parseInts (v : Value) (ws : List ByteArray) (w : World) (h : Sl strR w v ws) (hb : ws.length ≤ 1048600) (hs : ∀ s ∈ ws, s.size ≤ 1048600) (N : Env w) :
    Calls Tryd.prog 32 #[v] w fun e w2 => ∃ u F, e = .returned (.tuple #[u, .bool (pIs ws).2]) ∧ OwnSl intO w2 u (pIs ws).1 F ∧ NewF w F ∧ Ext w w2 := by
  obtain ⟨A, cap, rfl, hm⟩ := h.form
  go_enter Tryd.func32, Tryd.ntmps32
  go_wp2
  go_loopw [4, 11] (fun l i wr => ∃ k : Nat, k ≤ ws.length ∧ i = .int .i64 k ∧ Bld intO wr w.heap.size 3 l ((ws.take k).map fun s => (pI s).1) [] ∧ Hid (∀ s ∈ ws.take k, (pI s).2 = true) ∧ Ext w wr) (fun _ i _ => ws.length - (intOf i).toNat)
  case atStart => exact ⟨0, Nat.zero_le _, rfl, by simpa using Bld.nil w w.heap.size _, hid (by simp), Ext.refl _⟩
  case round =>
    obtain ⟨k, hk, rfl, hB, hall, hx⟩ := hrel
    by_cases hlt : k < ws.length
    · obtain ⟨b, off, rfl, hsz, hc⟩ := (h.mono hx).str hlt
      have hI := pI_64 ws[k]
      have HS := hid (hs _ (List.getElem_mem hlt))
      clear hsz
      go_wp2_with fail
      refine (impl_ParseInt ws[k] _ HS.out (N.mono hx)).mono ?_
      rintro e w2 ⟨rfl, x2⟩
      cases hp : (pI ws[k]).2 with
      | true =>
        have hB2 := hB.ext x2
        have hbs := (hx.trans x2).size
        have hl : ((ws.take k).map fun s => (pI s).1).length ≤ 1048600 := by rw [List.length_map, List.length_take]; omega
        have hnew := hid (show ∀ s ∈ ws.take (k + 1), (pI s).2 = true from fun s hm => by
          rw [List.take_succ_eq_append_getElem hlt, List.mem_append, List.mem_singleton] at hm
          rcases hm with hm | rfl
          · exact hall.out s hm
          · exact hp)
        clear hp
        go_wp2_with (at_builtin; refine wpList_app1 elemInt (by decide) rfl _ _ rfl hB2 rfl w2.heap.size 1 rfl rfl (one_int _) (own_int _ _ hI) fresh_nil (by omega) (by decide) hbs ?_; intro v9 w9 hB9 hE9)
        go_roundw
        case rel => exact ⟨k + 1, by omega, by go_num, by rw [List.take_succ_eq_append_getElem hlt, List.map_append]; exact hB9, hnew, hE9 _ (Nat.le_refl _) (hx.trans x2)⟩
        case measure => simp [intOf]; omega
      | false =>
        have HP := hid (pIs_no hlt hp)
        clear hp
        go_wp2
        refine bodyPost_ret (v := .tuple #[.slice none 0 0, .bool false]) (by simp [results, Tryd.results32, go_sem]) rfl ?_
        exact ⟨_, [], by rw [HP.out], by rw [HP.out]; exact OwnSl.nilS _ _, NewF.nil _, hx.trans x2⟩
    · rw [List.take_of_length_le (by omega)] at hB
      have HA := hid (show ∀ s ∈ ws, (pI s).2 = true by have := hall.out; rwa [List.take_of_length_le (by omega)] at this)
      have HP := hid (pIs_yes HA.out)
      obtain ⟨F, hF, hN, hb⟩ := hB.done
      obtain ⟨A4, cap4, e4, _⟩ := hF.form
      subst e4
      go_wp2
      refine bodyPost_ret (v := .tuple #[.slice A4 (ws.map fun s => (pI s).1).length cap4, .bool true]) (by simp [results, Tryd.results32, go_sem]) rfl ?_
      exact ⟨_, F, by rw [HP.out], by rw [HP.out]; exact hF, ⟨hN, hb⟩, hx⟩
end Go.Proofs.YtblggajfdhjmjaaDoor
