/-
  WALKS: keeps, KeepsConstraints (the program's).
-/
import Derived.Test.YtidchfncfcckiaaGreatMgEndClu4
import Derived.Test.YtidchfncfcckiaaGreatMgEndClu5
import Derived.Test.YtidchfncfcckiaaGreatMgEndClu2

namespace Go.Proofs.YtidchfncfcckiaaGreat
open Go.RowKit

set_option maxHeartbeats 400000 in
set_option maxRecDepth 20000 in
theorem slices_IndexFunc_kK (u : Value) (p : Constraint → Bool) (v : Value) (xs : List Constraint) (w : World) (h : Sl constraintR w v xs)
    (hf : ∀ W, Ext w W → ∀ c ∈ xs, Calls Tryz.prog 124 #[.agg #[.int .i64 c.a, .int .i64 c.b, .bool c.same], u] W fun e w2 => e = .returned (.bool (p c)) ∧ Ext W w2) :
    Calls Tryz.prog 134 #[v, .func (.func 124) #[] #[u]] w fun e w2 =>
      e = .returned (.int .i64 (idxF p 0 xs)) ∧ Ext w w2 := by
  obtain ⟨A, cap, rfl, hm⟩ := h.form
  have HF := hid hf
  clear hf
  go_enter Tryz.func134, Tryz.ntmps134
  go_wp2
  go_loopw [8] (fun i wr => ∃ k : Nat, k ≤ xs.length ∧ i = .int .i64 k ∧ (∀ y ∈ xs.take k, p y = false) ∧ Ext w wr) (fun i _ => xs.length - (intOf i).toNat)
  case atStart => exact ⟨0, Nat.zero_le _, rfl, by simp, Ext.refl _⟩
  case round =>
    obtain ⟨k, hk, rfl, hz, hx⟩ := hrel
    have HZ := hid hz
    clear hz
    by_cases hlt : k < xs.length
    · obtain ⟨b, off, eA, hokk, c0, c1, c2⟩ := (h.mono hx).constraint hlt
      subst eA
      obtain ⟨r, hr⟩ : ∃ r, r = p xs[k] := ⟨_, rfl⟩
      have HC := hid (show Calls Tryz.prog 124 #[.agg #[.int .i64 xs[k].a, .int .i64 xs[k].b, .bool xs[k].same], u] wr fun e w2 => e = .returned (.bool r) ∧ Ext wr w2 from by rw [hr]; exact HF.out wr hx xs[k] (List.getElem_mem hlt))
      have HR := hid hr
      clear hr hokk
      cases r with
      | true =>
        go_wp2_with (go_at_call 124; refine (HC.out).mono ?_; rintro e w2 ⟨rfl, x2⟩)
        go_ret
        exact ⟨ret_int (idxF_at p xs k hlt HZ.out HR.out.symm).symm, hx.trans x2⟩
      | false =>
        go_wp2_with (go_at_call 124; refine (HC.out).mono ?_; rintro e w2 ⟨rfl, x2⟩)
        go_roundw
        case rel => exact ⟨k + 1, by omega, by go_num, take_snoc_all _ xs k hlt HZ.out HR.out.symm, hx.trans x2⟩
        case measure => simp [intOf]; omega
    · go_wp2
      go_ret
      exact ⟨ret_int (idxF_all p xs k hlt HZ.out).symm, hx⟩
theorem slices_ContainsFunc_kK (u : Value) (p : Constraint → Bool) (v : Value) (xs : List Constraint) (w : World) (h : Sl constraintR w v xs)
    (hf : ∀ W, Ext w W → ∀ c ∈ xs, Calls Tryz.prog 124 #[.agg #[.int .i64 c.a, .int .i64 c.b, .bool c.same], u] W fun e w2 => e = .returned (.bool (p c)) ∧ Ext W w2) :
    Calls Tryz.prog 108 #[v, .func (.func 124) #[] #[u]] w fun e w2 =>
      e = .returned (.bool (xs.any p)) ∧ Ext w w2 := by
  have HI := hid (slices_IndexFunc_kK u p v xs w h hf)
  have HA := hid (idxF_any p xs 0)
  clear h hf
  go_enter Tryz.func108, Tryz.ntmps108
  go_wp2_with fail
  refine (HI.out).mono ?_
  rintro e w2 ⟨rfl, x2⟩
  go_wp2
  go_ret
  exact ⟨ret_bool HA.out, x2⟩


theorem keepC_range (p : List Int) (c : Constraint) (r : Bool) (hr : r = keepC p c) :
    (inB c.a 0 ((p.length : Int) - 1) = false → r = false) ∧ (inB c.b 0 ((p.length : Int) - 1) = false → r = false) ∧
    (inB c.a 0 ((p.length : Int) - 1) = true → inB c.b 0 ((p.length : Int) - 1) = true → ∃ (i k : Nat) (hi : i < p.length) (hk : k < p.length), c.a = i ∧ c.b = k ∧ r = ((p[i] == p[k]) == c.same)) := by
  subst hr
  unfold keepC inB
  refine ⟨fun h => ?_, fun h => ?_, fun h1 h2 => ?_⟩
  · rw [decide_eq_false_iff_not] at h
    rw [Bool.eq_false_iff]
    intro hc
    simp only [Bool.and_eq_true, decide_eq_true_eq] at hc
    omega
  · rw [decide_eq_false_iff_not] at h
    rw [Bool.eq_false_iff]
    intro hc
    simp only [Bool.and_eq_true, decide_eq_true_eq] at hc
    omega
  · rw [decide_eq_true_eq] at h1 h2
    refine ⟨c.a.toNat, c.b.toNat, by omega, by omega, by omega, by omega, ?_⟩
    rw [decide_eq_true (by omega : 0 ≤ c.a), decide_eq_true (by omega : c.a < p.length), decide_eq_true (by omega : 0 ≤ c.b), decide_eq_true (by omega : c.b < p.length), Bool.and_self, Bool.and_self, Bool.true_and, getD_getElem (by omega), getD_getElem (by omega)]

set_option maxHeartbeats 2000000 in
set_option maxRecDepth 20000 in
theorem impl_keeps1 (c : Constraint) (g : Nat) (A : Option Addr) (cap : Nat) (p : List Int) (w : World) (hc : w.cell? ⟨g, 0, none⟩ = some (.slice A p.length cap)) (hs : Sl intR w (.slice A p.length cap) p) :
    Calls Tryz.prog 124 #[.agg #[.int .i64 c.a, .int .i64 c.b, .bool c.same], .pointer (some ⟨g, 0, none⟩)] w fun e w2 => e = .returned (.bool (!keepC p c)) ∧ Ext w w2 := by
  have hcap := hs.cap_
  obtain ⟨r, hr⟩ : ∃ r, r = keepC p c := ⟨_, rfl⟩
  obtain ⟨f1, f2, f3⟩ := keepC_range p c r hr
  rw [← hr]
  clear hr
  obtain ⟨ca, cb, sm⟩ := c
  dsimp only at f1 f2 f3 ⊢
  have HA := hid (fun (W : World) => impl_isItem ca p.length W (by omega) (by omega))
  have HB := hid (fun (W : World) => impl_isItem cb p.length W (by omega) (by omega))
  obtain ⟨q1, hq1⟩ : ∃ q, q = inB ca 0 ((p.length : Int) - 1) := ⟨_, rfl⟩
  obtain ⟨q2, hq2⟩ : ∃ q, q = inB cb 0 ((p.length : Int) - 1) := ⟨_, rfl⟩
  rw [← hq1] at f1 f3 HA
  rw [← hq2] at f2 f3 HB
  clear hq1 hq2 hcap
  have xb : Ext w (w.alloc (.cells #[.int .i64 ca, .int .i64 cb, .bool sm] 79)) := (Ext.refl _).alloc _
  obtain ⟨wb, hwb⟩ : ∃ wb, wb = w.alloc (.cells #[.int .i64 ca, .int .i64 cb, .bool sm] 79) := ⟨_, rfl⟩
  have bb : Blk wb w.heap.size 79 [.int .i64 ca, .int .i64 cb, .bool sm] := by rw [hwb]; exact Blk.new w 79 #[.int .i64 ca, .int .i64 cb, .bool sm]
  rw [← hwb] at xb
  have z0 : ∀ z : ExtOf wb, z.1.cell? ⟨w.heap.size, 0, none⟩ = some (.int .i64 ca) := fun z => (bb.ext z.2).cells.1 0
  have z1 : ∀ z : ExtOf wb, z.1.cell? ⟨w.heap.size, 1, none⟩ = some (.int .i64 cb) := fun z => (bb.ext z.2).cells.1 1
  have z2 : ∀ z : ExtOf wb, z.1.cell? ⟨w.heap.size, 2, none⟩ = some (.bool sm) := fun z => (bb.ext z.2).cells.1 2
  have y0 : ∀ z : ExtOf wb, z.1.cell? ⟨g, 0, none⟩ = some (.slice A p.length cap) := fun z => (xb.trans z.2).cell hc
  cases q1 with
  | false =>
    have HR := hid (f1 rfl)
    clear f1 f2 f3 bb hc hs
    go_enter Tryz.func124, Tryz.ntmps124
    go_wp2_with fail
    rw [← hwb]
    refine wp_region_ext (by kernel_rfl) (by kernel_rfl) ?_
    repeat (go_big_quiet_step (((go_at_call 110; exact quiet_same (HA.out _)))))
    refine wpQuiet_nil ?_
    rintro w5 ⟨⟨_, x5⟩, rfl⟩
    go_wp2
    go_ret
    exact ⟨ret_bool (by rw [HR.out]; rfl), xb.trans x5⟩
  | true =>
    cases q2 with
    | false =>
      have HR := hid (f2 rfl)
      clear f1 f2 f3 bb hc hs
      go_enter Tryz.func124, Tryz.ntmps124
      go_wp2_with fail
      rw [← hwb]
      refine wp_region_ext (by kernel_rfl) (by kernel_rfl) ?_
      repeat (go_big_quiet_step ((first | (go_at_call 110; exact quiet_same (HA.out _)) | (go_at_call 110; exact quiet_same (HB.out _)))))
      refine wpQuiet_nil ?_
      rintro w5 ⟨⟨_, x5⟩, rfl⟩
      go_wp2
      go_ret
      exact ⟨ret_bool (by rw [HR.out]; rfl), xb.trans x5⟩
    | true =>
      obtain ⟨na, nb, hna, hnb, rfl, rfl, hre⟩ := f3 rfl rfl
      obtain ⟨b, off, eA, _, c1⟩ := hs.int hna
      obtain ⟨b2, off2, eB, _, c2⟩ := hs.int hnb
      subst eA
      injection eB with eB
      injection eB with eB eC _
      subst eB; subst eC
      have y1 : ∀ z : ExtOf wb, z.1.cell? ⟨b, off + na, none⟩ = some (.int .i64 p[na]) := fun z => (xb.trans z.2).cell c1
      have y2 : ∀ z : ExtOf wb, z.1.cell? ⟨b, off + nb, none⟩ = some (.int .i64 p[nb]) := fun z => (xb.trans z.2).cell c2
      obtain ⟨eq, heq⟩ : ∃ eq, eq = (p[na] == p[nb]) := ⟨_, rfl⟩
      have heq2 := heq.symm
      rw [← heq] at hre
      have HRE := hid hre
      clear f1 f2 f3 bb hc hs c1 c2 heq hre
      go_enter Tryz.func124, Tryz.ntmps124
      go_wp2_with fail
      rw [← hwb]
      refine wp_region_ext (by kernel_rfl) (by kernel_rfl) ?_
      repeat (go_big_quiet_step ((first | (go_at_call 110; exact quiet_same (HA.out _)) | (go_at_call 110; exact quiet_same (HB.out _)))))
      refine wpQuiet_nil ?_
      rintro w5 ⟨⟨_, x5⟩, rfl⟩
      go_wp2
      go_ret
      exact ⟨ret_bool (by rw [HRE.out]), xb.trans x5⟩

set_option maxHeartbeats 400000 in
set_option maxRecDepth 20000 in
theorem impl_keeps (v u : Value) (p : List Int) (l : List Constraint) (w : World) (h : Sl intR w v p) (k : Sl constraintR w u l) :
    Calls Tryz.prog 84 #[v, u] w fun e w2 => e = .returned (.bool (keepsB p l)) ∧ Ext w w2 := by
  obtain ⟨A, cap, rfl, hm⟩ := h.form
  obtain ⟨B, cap2, rfl, hm2⟩ := k.form
  have hx : Ext w (w.alloc (.cells #[.slice A p.length cap] 28)) := (Ext.refl _).alloc _
  have HE := hid (show keepsB p l = !(l.any fun c => !keepC p c) from by unfold keepsB; rw [List.not_any_eq_all_not]; simp)
  have HC := hid (slices_ContainsFunc_kK (.pointer (some ⟨w.heap.size, 0, none⟩)) (fun c => !keepC p c) _ l _ (k.mono hx) fun W y c _ => impl_keeps1 c w.heap.size A cap p W (y.box.1 0) (h.mono (hx.trans y)))
  clear h k
  go_enter Tryz.func84, Tryz.ntmps84
  go_wp2_with fail
  refine (HC.out).mono ?_
  rintro e w2 ⟨rfl, x2⟩
  go_wp2
  go_ret
  exact ⟨ret_bool HE.out.symm, hx.trans x2⟩

set_option maxHeartbeats 400000 in
theorem impl_KeepsConstraints (v u : Value) (p : List Int) (l : List Constraint) (w : World) (h : Sl intR w v p) (k : Sl constraintR w u l) :
    Calls Tryz.prog 65 #[v, u] w fun e w2 => e = .returned (.bool (partB p && keepsB p l)) ∧ Ext w w2 := by
  have HA := hid (impl_IsPartition v p w h)
  have HB := hid (impl_keeps v u p l w h k)
  obtain ⟨A, cap, rfl, hm⟩ := h.form
  obtain ⟨B, cap2, rfl, hm2⟩ := k.form
  obtain ⟨q, hq⟩ : ∃ q, q = partB p := ⟨_, rfl⟩
  obtain ⟨r, hr⟩ : ∃ r, r = keepsB p l := ⟨_, rfl⟩
  rw [← hq] at HA ⊢
  rw [← hr] at HB ⊢
  clear hq hr
  cases q with
  | false =>
    go_enter Tryz.func65, Tryz.ntmps65
    go_wp2_with fail
    refine (HA.out).mono ?_
    rintro e w2 ⟨rfl, rfl⟩
    go_wp2
    go_ret
    exact ⟨rfl, Ext.refl _⟩
  | true =>
    go_enter Tryz.func65, Tryz.ntmps65
    go_wp2_with fail
    refine (HA.out).mono ?_
    rintro e w2 ⟨rfl, rfl⟩
    go_wp2_with fail
    refine (HB.out).mono ?_
    rintro e w2 ⟨rfl, x2⟩
    go_wp2
    go_ret
    exact ⟨ret_bool (by rw [Bool.true_and]), x2⟩
end Go.Proofs.YtidchfncfcckiaaGreat
