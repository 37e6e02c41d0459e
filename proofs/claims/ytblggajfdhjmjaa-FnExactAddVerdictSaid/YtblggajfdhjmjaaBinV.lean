/-
  WALK: slices.BinarySearchFunc at verdicts in ascending order, by CompareVerdicts.
-/
import Derived.Test.YtblggajfdhjmjaaVerO
import Derived.Deep.LoopGhost
namespace Go.Proofs.Ytblggajfdhjmjaa
open Go.RowKit

/-- is x among them? -/
noncomputable def memV (xs : List Verdict) (x : Verdict) : Bool := @decide (x ∈ xs) (Classical.propDecidable _)
theorem memV_iff (xs : List Verdict) (x : Verdict) : memV xs x = true ↔ x ∈ xs := by unfold memV; exact @decide_eq_true_iff _ (Classical.propDecidable _)

set_option maxHeartbeats 1000000 in
set_option maxRecDepth 20000 in
theorem slices_BSF_v (v : Value) (xs : List Verdict) (x : Verdict) (w : World) (h : Sl verdictR w v xs) (ha : Asc xs) (hl : xs.length ≤ 8) :
    Calls Try.prog 26 #[v, .agg #[.int .i64 x.a, .int .i64 x.b, .bool x.same, .int .i64 x.time], .func (.func 27) #[] #[]] w fun e w2 =>
      e = .returned (.tuple #[.int .i64 (cntV xs x), .bool (memV xs x)]) ∧ Ext w w2 := by
  obtain ⟨A, cap, rfl, hm⟩ := h.form
  have HA := hid (fun k (hk : k < xs.length) => asc_side ha hk (v := x))
  have HF := hid (asc_found ha (v := x))
  have hcl := cntV_le xs x
  obtain ⟨cnt, hcnt⟩ : ∃ cnt, cnt = cntV xs x := ⟨_, rfl⟩
  have HC := hid hcnt
  rw [← hcnt] at hcl ⊢
  obtain ⟨fd, hfd⟩ : ∃ fd, fd = memV xs x := ⟨_, rfl⟩
  have HD := hid hfd
  rw [← hfd]
  clear ha hcnt hfd
  go_enter Try.func26, Try.ntmps26
  go_wp2
  go_loopg [9, 10] 8 (fun kx s9 s10 wr => ∃ lo hi : Nat, s9 = .int .i64 lo ∧ s10 = .int .i64 hi ∧ lo ≤ hi ∧ hi ≤ xs.length ∧ hi - lo ≤ kx ∧ lo ≤ cnt ∧ cnt ≤ hi ∧ Ext (w.alloc (.cells #[.int .i64 x.a, .int .i64 x.b, .bool x.same, .int .i64 x.time] 30)) wr)
  case atStart => exact ⟨0, xs.length, rfl, rfl, Nat.zero_le _, Nat.le_refl _, by omega, Nat.zero_le _, hcl, Ext.refl _⟩
  case round =>
    obtain ⟨lo, hi, rfl, rfl, hlh, hin, hg, h1, h2, hx⟩ := hrel
    have xw : Ext w wr := ((Ext.refl w).alloc _).trans hx
    by_cases hlt : lo < hi
    · have hmid : (lo + hi) / 2 < xs.length := by omega
      obtain ⟨b, off, rfl, hok, hc0, hc1, hc2, hc3⟩ := (h.mono xw).verdict hmid
      clear hok
      have hz0 : ∀ z : ExtOf wr, z.1.cell? ⟨b, off + ((lo + hi) / 2) * 4, none⟩ = _ := fun z => z.2.cell hc0
      have hz1 : ∀ z : ExtOf wr, z.1.cell? ⟨b, off + ((lo + hi) / 2) * 4 + 1, none⟩ = _ := fun z => z.2.cell hc1
      have hz2 : ∀ z : ExtOf wr, z.1.cell? ⟨b, off + ((lo + hi) / 2) * 4 + 2, none⟩ = _ := fun z => z.2.cell hc2
      have hz3 : ∀ z : ExtOf wr, z.1.cell? ⟨b, off + ((lo + hi) / 2) * 4 + 3, none⟩ = _ := fun z => z.2.cell hc3
      have hb0 : ∀ z : ExtOf wr, z.1.cell? ⟨w.heap.size, 0, none⟩ = some (.int .i64 x.a) := fun z => (hx.trans z.2).box.1 0
      have hb1 : ∀ z : ExtOf wr, z.1.cell? ⟨w.heap.size, 1, none⟩ = some (.int .i64 x.b) := fun z => (hx.trans z.2).box.1 1
      have hb2 : ∀ z : ExtOf wr, z.1.cell? ⟨w.heap.size, 2, none⟩ = some (.bool x.same) := fun z => (hx.trans z.2).box.1 2
      have hb3 : ∀ z : ExtOf wr, z.1.cell? ⟨w.heap.size, 3, none⟩ = some (.int .i64 x.time) := fun z => (hx.trans z.2).box.1 3
      have hs := HA.out _ hmid
      rw [← HC.out] at hs
      have h64 := (cmpV_64 xs[(lo + hi) / 2] x).out
      obtain ⟨y, hy⟩ : ∃ y, y = xs[(lo + hi) / 2] := ⟨_, rfl⟩
      rw [← hy] at hs h64 hz0 hz1 hz2 hz3
      clear hc0 hc1 hc2 hc3 hy
      by_cases hyx : cmpV y x < 0
      · have hm1 := hs.1 hyx
        clear hs
        go_wp2_with fail
        refine wp_region_ext (by kernel_rfl) (by kernel_rfl) ?_
        repeat (go_big_quiet_step ((first | (go_at_call 27; exact quiet_ext (impl_cmp y x _)))))
        refine wpQuiet_nil ?_
        rintro w4 ⟨⟨_, x4⟩, rfl⟩
        go_wp2
        go_roundg (hi - ((lo + hi) / 2 + 1))
        case measure => omega
        case rel => exact ⟨(lo + hi) / 2 + 1, hi, by rw [show ((lo : Int) + (hi : Int)) / 2 + 1 = (((lo + hi) / 2 + 1 : Nat) : Int) by omega], rfl, by omega, hin, Nat.le_refl _, by omega, h2, hx.trans x4⟩
      · have hm1 : cnt ≤ (lo + hi) / 2 := Nat.le_of_not_lt fun k => hyx (hs.2 k)
        clear hs
        go_wp2_with fail
        refine wp_region_ext (by kernel_rfl) (by kernel_rfl) ?_
        repeat (go_big_quiet_step ((first | (go_at_call 27; exact quiet_ext (impl_cmp y x _)))))
        refine wpQuiet_nil ?_
        rintro w4 ⟨⟨_, x4⟩, rfl⟩
        go_wp2
        go_roundg ((lo + hi) / 2 - lo)
        case measure => omega
        case rel => exact ⟨lo, (lo + hi) / 2, rfl, by rw [show ((lo : Int) + (hi : Int)) / 2 = (((lo + hi) / 2 : Nat) : Int) by omega], by omega, by omega, Nat.le_refl _, h1, hm1, hx.trans x4⟩
    · obtain rfl : hi = lo := by omega
      obtain rfl : cnt = hi := by omega
      by_cases hn : cnt < xs.length
      · obtain ⟨b, off, rfl, hok, hc0, hc1, hc2, hc3⟩ := (h.mono xw).verdict hn
        clear hok
        have hz0 : ∀ z : ExtOf wr, z.1.cell? ⟨b, off + cnt * 4, none⟩ = _ := fun z => z.2.cell hc0
        have hz1 : ∀ z : ExtOf wr, z.1.cell? ⟨b, off + cnt * 4 + 1, none⟩ = _ := fun z => z.2.cell hc1
        have hz2 : ∀ z : ExtOf wr, z.1.cell? ⟨b, off + cnt * 4 + 2, none⟩ = _ := fun z => z.2.cell hc2
        have hz3 : ∀ z : ExtOf wr, z.1.cell? ⟨b, off + cnt * 4 + 3, none⟩ = _ := fun z => z.2.cell hc3
        have hb0 : ∀ z : ExtOf wr, z.1.cell? ⟨w.heap.size, 0, none⟩ = some (.int .i64 x.a) := fun z => (hx.trans z.2).box.1 0
        have hb1 : ∀ z : ExtOf wr, z.1.cell? ⟨w.heap.size, 1, none⟩ = some (.int .i64 x.b) := fun z => (hx.trans z.2).box.1 1
        have hb2 : ∀ z : ExtOf wr, z.1.cell? ⟨w.heap.size, 2, none⟩ = some (.bool x.same) := fun z => (hx.trans z.2).box.1 2
        have hb3 : ∀ z : ExtOf wr, z.1.cell? ⟨w.heap.size, 3, none⟩ = some (.int .i64 x.time) := fun z => (hx.trans z.2).box.1 3
        have h64 := (cmpV_64 xs[cnt] x).out
        have hF : fd = decide (cmpV xs[cnt] x = 0) := by
          rw [HD.out]
          by_cases hm : x ∈ xs
          · obtain ⟨hk, e⟩ := HF.out.1 hm
            rw [(memV_iff _ _).2 hm]
            have : xs[cntV xs x] = xs[cnt] := by congr 1; exact HC.out.symm
            rw [← this, e]; rfl
          · have : memV xs x = false := by
              cases hb : memV xs x with
              | false => rfl
              | true => exact absurd ((memV_iff _ _).1 hb) hm
            rw [this]
            refine (decide_eq_false fun e => hm (HF.out.2 ⟨by rw [← HC.out]; exact hn, ?_⟩)).symm
            have e2 : xs[cntV xs x]'(by rw [← HC.out]; exact hn) = xs[cnt] := by congr 1; exact HC.out.symm
            rw [e2]; exact e
        obtain ⟨y, hy⟩ : ∃ y, y = xs[cnt] := ⟨_, rfl⟩
        rw [← hy] at hF h64 hz0 hz1 hz2 hz3
        have HFF := hid hF
        clear hc0 hc1 hc2 hc3 hy hF
        by_cases hyx : cmpV y x = 0
        · go_wp2_with fail
          refine wp_region_ext (by kernel_rfl) (by kernel_rfl) ?_
          repeat (go_big_quiet_step ((first | (go_at_call 27; exact quiet_ext (impl_cmp y x _)))))
          refine wpQuiet_nil ?_
          rintro w4 ⟨⟨_, x4⟩, rfl⟩
          go_wp2
          refine bodyPost_ret (v := .tuple #[.int .i64 cnt, .bool true]) (by simp [results, Try.results26, go_sem]) rfl ?_
          exact ⟨by rw [HFF.out, decide_eq_true hyx], xw.trans x4⟩
        · have hyx2 : (cmpV y x == 0) = false := by simp [hyx]
          go_wp2_with fail
          refine wp_region_ext (by kernel_rfl) (by kernel_rfl) ?_
          repeat (go_big_quiet_step ((first | (go_at_call 27; exact quiet_ext (impl_cmp y x _)))))
          refine wpQuiet_nil ?_
          rintro w4 ⟨⟨_, x4⟩, rfl⟩
          go_wp2
          refine bodyPost_ret (v := .tuple #[.int .i64 cnt, .bool false]) (by simp [results, Try.results26, go_sem]) rfl ?_
          exact ⟨by rw [HFF.out, decide_eq_false hyx], xw.trans x4⟩
      · have hF : fd = false := by
          rw [HD.out]
          cases hb : memV xs x with
          | false => rfl
          | true =>
            obtain ⟨hk, _⟩ := HF.out.1 ((memV_iff _ _).1 hb)
            rw [← HC.out] at hk; exact absurd hk hn
        have HFF := hid hF
        clear hF
        go_wp2_with fail
        refine wp_region_ext (by kernel_rfl) (by kernel_rfl) ?_
        repeat (go_big_quiet_step ((fail)))
        refine wpQuiet_nil ?_
        rintro w4 ⟨⟨_, x4⟩, rfl⟩
        go_wp2
        refine bodyPost_ret (v := .tuple #[.int .i64 cnt, .bool false]) (by simp [results, Try.results26, go_sem]) rfl ?_
        exact ⟨by rw [HFF.out], xw.trans x4⟩
end Go.Proofs.Ytblggajfdhjmjaa
