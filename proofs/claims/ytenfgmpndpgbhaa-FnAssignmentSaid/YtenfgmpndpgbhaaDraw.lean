/-
  Bytes; the cursor of the drawing functions. WALKS: l1Byte, l1Below (to 256), l1Once, l1PickInt, l1New.
-/
import Derived.Test.YtenfgmpndpgbhaaAppI
import Derived.Test.YtenfgmpndpgbhaaBit
import Derived.Laws.Bits128
namespace Go.Proofs.Ytenfgmpndpgbhaa
open Go.RowKit

def u8R : Rep Int := ⟨1, fun _ cs x => cs = [.int .u8 x] ∧ 0 ≤ x ∧ x ≤ 255, fun h => by simp [h.1], fun _ h => h⟩
theorem reads_u8 {P : Program} {e : TypeId} (he : P.underlying e = some (.int .u8)) (hc : P.cellsOf e = 1) : Reads P e u8R :=
  ⟨hc, fun h => by
    obtain ⟨n, rfl, _, hw⟩ := DataW.trod_int he h
    exact ⟨n, rfl, by simpa [Lit.wf, IntKind.min, IntKind.max, IntKind.signed, IntKind.bits] using hw⟩⟩
theorem Sl.u8 {w : World} {A : Option Addr} {n cap : Nat} {xs : List Int} (h : Sl u8R w (.slice A n cap) xs) {i : Nat} (hi : i < xs.length) :
    ∃ b off, A = some ⟨b, off, none⟩ ∧ (0 ≤ xs[i] ∧ xs[i] ≤ 255) ∧ w.cell? ⟨b, off + i, none⟩ = some (.int .u8 xs[i]) := by
  obtain ⟨b, off, cs, rfl, ⟨rfl, hr⟩, hc⟩ := h.at_ hi
  exact ⟨b, off, rfl, hr, by simpa [u8R] using hc 0 (by simp [u8R])⟩
theorem rU8 : Reads Try.prog 5 u8R := reads_u8 Try.underlying5 (by kernel_rfl)
theorem rBytes : Reads Try.prog 53 (slR u8R) := reads_slice Try.underlying53 (by kernel_rfl) (by decide) rU8

theorem i64_and255 (n : Int) : bits .and .i64 n 255 = n % 256 := by
  have h255 : (BitVec.ofInt 64 255).toNat = 2 ^ 8 - 1 := by decide
  have key : (BitVec.ofInt 64 n &&& BitVec.ofInt 64 255).toNat = (n % ((2 ^ 64 : Nat) : Int)).toNat % 2 ^ 8 := by
    rw [BitVec.toNat_and, BitVec.toNat_ofInt, h255, Nat.and_two_pow_sub_one_eq_mod]
  show IntKind.i64.wrap ((BitVec.ofInt 64 n &&& BitVec.ofInt 64 255).toNat : Nat) = n % 256
  rw [key, IntKind.wrap_i64]
  omega
theorem i64_and30 (n : Int) : bits .and .i64 n 1073741823 = n % 1073741824 := by
  have h255 : (BitVec.ofInt 64 1073741823).toNat = 2 ^ 30 - 1 := by decide
  have key : (BitVec.ofInt 64 n &&& BitVec.ofInt 64 1073741823).toNat = (n % ((2 ^ 64 : Nat) : Int)).toNat % 2 ^ 30 := by
    rw [BitVec.toNat_and, BitVec.toNat_ofInt, h255, Nat.and_two_pow_sub_one_eq_mod]
  show IntKind.i64.wrap ((BitVec.ofInt 64 n &&& BitVec.ofInt 64 1073741823).toNat : Nat) = n % 1073741824
  rw [key, IntKind.wrap_i64]
  omega

/-- the cursor lies in block g; its bytes lie in w0 -/
def Cur (w0 w : World) (g : Nat) : Prop := ∃ (A : Option Addr) (cap : Nat) (bs : List Int) (p : Nat) (h : Int), Sl u8R w0 (.slice A bs.length cap) bs ∧ Ext w0 w ∧ w0.heap.size ≤ g ∧
  Blk w g 102 [.slice A bs.length cap, .int .i64 p, .int .i64 h] ∧ p ≤ bs.length ∧ I64 h
/-- all old blocks stand but g -/
def Kept (g : Nat) (w w2 : World) : Prop := w.heap.size ≤ w2.heap.size ∧ ∀ b, b < w.heap.size → b ≠ g → w2.heap[b]? = w.heap[b]?
theorem Kept.refl (g : Nat) (w : World) : Kept g w w := ⟨Nat.le_refl _, fun _ _ _ => rfl⟩
theorem Kept.trans {g : Nat} {a b c : World} (h : Kept g a b) (k : Kept g b c) : Kept g a c := ⟨Nat.le_trans h.1 k.1, fun i hi hg => (k.2 i (Nat.lt_of_lt_of_le hi h.1) hg).trans (h.2 i hi hg)⟩
theorem Ext.kept {g : Nat} {a b : World} (h : Ext a b) : Kept g a b := ⟨h.size, fun _ hi _ => h.block hi⟩
theorem Kept.set (g k : Nat) (u : Value) (w : World) : Kept g w (w.setCell ⟨g, k, none⟩ u) := ⟨by simp, fun b _ hb => keep_setCell hb⟩
theorem Cur.keep {w0 w w2 : World} {g : Nat} (h : Cur w0 w g) (x : Ext w0 w2) (k : w2.heap[g]? = w.heap[g]?) : Cur w0 w2 g :=
  let ⟨A, cap, bs, p, hh, h1, _, h3, h4, h5⟩ := h; ⟨A, cap, bs, p, hh, h1, x, h3, h4.keep k, h5⟩
theorem Cur.ext {w0 w w2 : World} {g : Nat} (h : Cur w0 w g) (x : Ext w w2) : Cur w0 w2 g := by
  obtain ⟨A, cap, bs, p, hh, h1, h2, h3, h4, h5⟩ := h
  exact ⟨A, cap, bs, p, hh, h1, h2.trans x, h3, h4.ext x, h5⟩

set_option maxHeartbeats 400000 in
set_option maxRecDepth 20000 in
theorem spec_l1Byte (w0 w : World) (g : Nat) (hc : Cur w0 w g) :
    Calls Try.prog 138 #[.pointer (some ⟨g, 0, none⟩)] w fun e w2 => ∃ x, e = .returned (.int .i64 x) ∧ (0 ≤ x ∧ x ≤ 255) ∧ Cur w0 w2 g ∧ Kept g w w2 := by
  obtain ⟨A, cap, bs, p, h, hb, hx, hg, hB, hp, hI⟩ := hc
  have hm := hb.cap_
  have hI' := hI.out
  obtain ⟨c0, f0⟩ := hB.cells
  have c2 : w.cell? ⟨g, 2, none⟩ = some (.int .i64 h) := c0 2
  have f2 : w.frozen? ⟨g, 2, none⟩ = false := f0 2
  clear c0 f0
  obtain ⟨u, hu⟩ : ∃ u, u = wrap64 (wrap64 (h * 6364136223846793005) + 1442695040888963407) := ⟨_, rfl⟩
  have HU := hid hu
  have S1 : Blk (w.setCell ⟨g, 2, none⟩ (.int .i64 u)) g 102 [.slice A bs.length cap, .int .i64 p, .int .i64 u] := Blk.store (done := [.slice A bs.length cap, .int .i64 p]) (z := .int .i64 h) (rest := []) (k := 2) hB rfl (.int .i64 u)
  obtain ⟨W1, hW⟩ : ∃ W1, W1 = w.setCell ⟨g, 2, none⟩ (.int .i64 u) := ⟨_, rfl⟩
  have hu64 : I64 u := by rw [hu]; unfold I64 wrap64; omega
  have hx1 : Ext w0 W1 := by rw [hW]; exact hx.setCell (by simpa using hg) _
  have hk1 : Kept g w W1 := by rw [hW]; exact Kept.set _ _ _ _
  rw [← hW] at S1
  have HW := hid hW
  clear hu hW
  obtain ⟨c0, f0⟩ := S1.cells
  have d0 : ∀ z : ExtOf W1, z.1.cell? ⟨g, 0, none⟩ = some (.slice A bs.length cap) := fun z => z.2.cell (c0 0)
  have d1 : ∀ z : ExtOf W1, z.1.cell? ⟨g, 1, none⟩ = some (.int .i64 p) := fun z => z.2.cell (c0 1)
  have d2 : ∀ z : ExtOf W1, z.1.cell? ⟨g, 2, none⟩ = some (.int .i64 u) := fun z => z.2.cell (c0 2)
  clear c0 f0
  by_cases hlt : p < bs.length
  · obtain ⟨b, off, rfl, hbd, hcb⟩ := hb.u8 hlt
    have d3 : ∀ z : ExtOf W1, z.1.cell? ⟨b, off + p, none⟩ = some (.int .u8 bs[p]) := fun z => (hx1.trans z.2).cell hcb
    go_enter Try.func138, Try.ntmps138
    go_wp2_with fail
    rw [← HU.out, ← HW.out]
    refine wp_region_ext (by kernel_rfl) (by kernel_rfl) ?_
    repeat (go_big_quiet_step ((fail)))
    refine wpQuiet_nil ?_
    rintro w4 ⟨⟨_, x4⟩, rfl⟩
    have e0 : ∀ z : ExtOf w4, z.1.cell? ⟨g, 0, none⟩ = some (.slice (some ⟨b, off, none⟩) bs.length cap) := fun z => d0 ⟨_, x4.trans z.2⟩
    have e1 : ∀ z : ExtOf w4, z.1.cell? ⟨g, 1, none⟩ = some (.int .i64 p) := fun z => d1 ⟨_, x4.trans z.2⟩
    go_wp2_with fail
    refine wp_region_ext (by kernel_rfl) (by kernel_rfl) ?_
    repeat (go_big_quiet_step ((fail)))
    refine wpQuiet_nil ?_
    rintro w5 ⟨⟨_, x5⟩, rfl⟩
    have k0 : ∀ z : ExtOf w5, z.1.cell? ⟨g, 0, none⟩ = some (.slice (some ⟨b, off, none⟩) bs.length cap) := fun z => e0 ⟨_, x5.trans z.2⟩
    have k1 : ∀ z : ExtOf w5, z.1.cell? ⟨g, 1, none⟩ = some (.int .i64 p) := fun z => e1 ⟨_, x5.trans z.2⟩
    have k3 : ∀ z : ExtOf w5, z.1.cell? ⟨b, off + p, none⟩ = some (.int .u8 bs[p]) := fun z => d3 ⟨_, (x4.trans x5).trans z.2⟩
    go_wp2_with fail
    refine wp_region_ext (by kernel_rfl) (by kernel_rfl) ?_
    repeat (go_big_quiet_step ((fail)))
    refine wpQuiet_nil ?_
    rintro w6 ⟨⟨_, x6⟩, rfl⟩
    have S6 := S1.ext ((x4.trans x5).trans x6)
    have m1 := (S6.cells).1 1
    have n1 := (S6.cells).2 1
    have m1 : w6.cell? ⟨g, 1, none⟩ = some (.int .i64 p) := m1
    go_wp2
    go_ret
    refine ⟨_, rfl, ?_, ⟨_, _, bs, p + 1, u, hb, ((hx1.trans ((x4.trans x5).trans x6)).setCell (by simpa using hg) _), hg, ?_, hlt, hu64⟩, (hk1.trans ((x4.trans x5).trans x6).kept).trans (Kept.set _ _ _ _)⟩
    · rw [i64_and255]; omega
    · have := Blk.store (done := [.slice (some ⟨b, off, none⟩) bs.length cap]) (z := .int .i64 p) (rest := [.int .i64 u]) (k := 1) S6 rfl (.int .i64 ((p : Int) + 1))
      exact this
  · go_enter Try.func138, Try.ntmps138
    go_wp2_with fail
    rw [← HU.out, ← HW.out]
    refine wp_region_ext (by kernel_rfl) (by kernel_rfl) ?_
    repeat (go_big_quiet_step ((fail)))
    refine wpQuiet_nil ?_
    rintro w4 ⟨⟨_, x4⟩, rfl⟩
    have e0 : ∀ z : ExtOf w4, z.1.cell? ⟨g, 0, none⟩ = some (.slice A bs.length cap) := fun z => d0 ⟨_, x4.trans z.2⟩
    have e1 : ∀ z : ExtOf w4, z.1.cell? ⟨g, 1, none⟩ = some (.int .i64 p) := fun z => d1 ⟨_, x4.trans z.2⟩
    go_wp2_with fail
    refine wp_region_ext (by kernel_rfl) (by kernel_rfl) ?_
    repeat (go_big_quiet_step ((fail)))
    refine wpQuiet_nil ?_
    rintro w5 ⟨⟨_, x5⟩, rfl⟩
    go_wp2
    go_ret
    refine ⟨_, rfl, ?_, ⟨_, _, bs, p, u, hb, hx1.trans (x4.trans x5), hg, S1.ext (x4.trans x5), hp, hu64⟩, hk1.trans (x4.trans x5).kept⟩
    rw [i64_and255]; omega

set_option maxHeartbeats 400000 in
theorem spec_l1Below (w0 w : World) (g : Nat) (n : Int) (hn : 1 ≤ n ∧ n ≤ 256) (hc : Cur w0 w g) :
    Calls Try.prog 117 #[.pointer (some ⟨g, 0, none⟩), .int .i64 n] w fun e w2 => ∃ x, e = .returned (.int .i64 x) ∧ (0 ≤ x ∧ x < n) ∧ Cur w0 w2 g ∧ Kept g w w2 := by
  have hz : ¬ n = 0 := by omega
  go_enter Try.func117, Try.ntmps117
  go_wp2_with fail
  refine (spec_l1Byte w0 w g hc).mono ?_
  rintro e w2 ⟨x, rfl, hx, hc2, hk⟩
  go_wp2
  go_ret
  refine ⟨_, rfl, ?_, hc2, hk⟩
  first | exact ⟨Int.tmod_nonneg _ hx.1, Int.tmod_lt_of_pos _ (by omega)⟩ | exact ⟨Int.emod_nonneg _ (by omega), Int.emod_lt_of_pos _ (by omega)⟩

set_option maxHeartbeats 400000 in
theorem spec_l1Once (w0 w : World) (g : Nat) (n : Int) (hn : 1 ≤ n ∧ n ≤ 256) (hc : Cur w0 w g) :
    Calls Try.prog 100 #[.pointer (some ⟨g, 0, none⟩), .int .i64 n] w fun e w2 => ∃ x, e = .returned (.bool x) ∧ Cur w0 w2 g ∧ Kept g w w2 := by
  go_enter Try.func100, Try.ntmps100
  go_wp2_with fail
  refine (spec_l1Below w0 w g n hn hc).mono ?_
  rintro e w2 ⟨x, rfl, hx, hc2, hk⟩
  go_wp2
  go_ret
  exact ⟨_, rfl, hc2, hk⟩
end Go.Proofs.Ytenfgmpndpgbhaa
