/-
  WALKS: bestAssignment's closure.
-/
import Derived.Test.YtenfgmpndpgbhaaBestI
namespace Go.Proofs.Ytenfgmpndpgbhaa
open Go.RowKit

set_option maxHeartbeats 400000 in
set_option maxRecDepth 20000 in
theorem impl_best_1 (j k s : Nat) (br bt bw bi g off n cap1 cap2 : Nat) (A1 : Option Addr) (r : List Int) (f : Nat → Nat → Int) (F : List Nat) (w : World)
    (h1 : w.cell? ⟨br, 0, none⟩ = some (.slice A1 r.length cap1)) (h2 : w.cell? ⟨bt, 0, none⟩ = some (.int .i64 s)) (h3 : w.cell? ⟨bw, 0, none⟩ = some (.slice (some ⟨g, off, none⟩) (n + 1) cap2)) (h4 : w.cell? ⟨bi, 0, none⟩ = some (.int .i64 k))
    (hr : Sl intR w (.slice A1 r.length cap1) r) (hT : OwnSl (slO intO) w (.slice (some ⟨g, off, none⟩) (n + 1) cap2) (tab (n + 1) 256 f) F) (hN : F.Nodup) (hj : j < r.length) (hj8 : j < 8) (hs : s < 256) (hk : k < n) (hn : n ≤ 8)
    (hx : 0 ≤ r[j] ∧ r[j] ≤ 100) (hf : ∀ t < 256, 0 ≤ f (k + 1) t ∧ f (k + 1) t ≤ 800) :
    Calls Try.prog 108 #[.int .i64 j, .pointer (some ⟨br, 0, none⟩), .pointer (some ⟨bt, 0, none⟩), .pointer (some ⟨bw, 0, none⟩), .pointer (some ⟨bi, 0, none⟩)] w fun e w2 =>
      e = .returned (.bool (decide (0 < r[j]) && !s.testBit j && decide (r[j] + f (k + 1) (s ||| 1 <<< j) = f k s))) ∧ Ext w w2 := by
  have hbt := bit_test (s := s) (c := j) (by omega)
  have hls : s ||| 1 <<< j < 256 := bit_set_lt (n := 8) hs hj8
  have hor := bit_setw (s := s) (c := j) (by omega) (by omega)
  obtain ⟨t, ht⟩ : ∃ t, t = s ||| 1 <<< j := ⟨_, rfl⟩
  rw [← ht] at hls hor ⊢
  clear ht
  obtain ⟨b2, off2, rfl, hi2, hc2⟩ := hr.int hj
  obtain ⟨b3, o3, c3, hc3, _, _, hc4, _, _⟩ := tab_at hT hN (show k + 1 < n + 1 by omega) hls
  obtain ⟨b4, o4, c4, hc5, _, _, hc6, _, _⟩ := tab_at hT hN (show k < n + 1 by omega) hs
  have hz1 : ∀ z : ExtOf w, z.1.cell? ⟨br, 0, none⟩ = _ := fun z => z.2.cell h1
  have hz2 : ∀ z : ExtOf w, z.1.cell? ⟨bt, 0, none⟩ = _ := fun z => z.2.cell h2
  have hz3 : ∀ z : ExtOf w, z.1.cell? ⟨bw, 0, none⟩ = _ := fun z => z.2.cell h3
  have hz4 : ∀ z : ExtOf w, z.1.cell? ⟨bi, 0, none⟩ = _ := fun z => z.2.cell h4
  have hcz2 : ∀ z : ExtOf w, z.1.cell? ⟨b2, off2 + j, none⟩ = _ := fun z => z.2.cell hc2
  have hcz3 : ∀ z : ExtOf w, z.1.cell? ⟨g, off + (k + 1), none⟩ = _ := fun z => z.2.cell hc3
  have hcz4 : ∀ z : ExtOf w, z.1.cell? ⟨b3, o3 + t, none⟩ = _ := fun z => z.2.cell hc4
  have hcz5 : ∀ z : ExtOf w, z.1.cell? ⟨g, off + k, none⟩ = _ := fun z => z.2.cell hc5
  have hcz6 : ∀ z : ExtOf w, z.1.cell? ⟨b4, o4 + s, none⟩ = _ := fun z => z.2.cell hc6
  have hft := hf t hls
  have hl63 : r.length ≤ 9223372036854775807 := by
    obtain ⟨_, _, _, h9⟩ := hr.form
    exact h9
  clear hf hT hr h1 h2 h3 h4 hc2 hc3 hc4 hc5 hc6
  by_cases hv : 0 < r[j]
  · cases hbit : s.testBit j with
    | true =>
      rw [hbit, Bool.not_true] at hbt
      have HV := hid hbit
      clear hbit
      go_enter Try.func108, Try.ntmps108
      go_wp2_with fail
      refine wp_region_ext (by kernel_rfl) (by kernel_rfl) ?_
      repeat (go_big_quiet_step ((fail)))
      refine wpQuiet_nil ?_
      rintro w2 ⟨⟨_, x2⟩, rfl⟩
      go_wp2
      go_ret
      exact ⟨by simp, x2⟩
    | false =>
      rw [hbit, Bool.not_false] at hbt
      have HV := hid hbit
      clear hbit
      by_cases hsum : r[j] + f (k + 1) t = f k s
      · have hsb2 : (r[j] + f (k + 1) t == f k s) = true := by simp [hsum]
        have HSU := hid hsum
        clear hsum
        go_enter Try.func108, Try.ntmps108
        go_wp2_with fail
        refine wp_region_ext (by kernel_rfl) (by kernel_rfl) ?_
        repeat (go_big_quiet_step ((fail)))
        refine wpQuiet_nil ?_
        rintro w2 ⟨⟨_, x2⟩, rfl⟩
        go_wp2
        go_ret
        exact ⟨ret_bool (by rw [decide_eq_true hv, decide_eq_true HSU.out]; rfl), x2⟩
      · have hsb2 : (r[j] + f (k + 1) t == f k s) = false := by simp [hsum]
        have HSU := hid hsum
        clear hsum
        go_enter Try.func108, Try.ntmps108
        go_wp2_with fail
        refine wp_region_ext (by kernel_rfl) (by kernel_rfl) ?_
        repeat (go_big_quiet_step ((fail)))
        refine wpQuiet_nil ?_
        rintro w2 ⟨⟨_, x2⟩, rfl⟩
        go_wp2
        go_ret
        exact ⟨ret_bool (by rw [decide_eq_false HSU.out]; simp), x2⟩
  · have hvd : decide (0 < r[j]) = false := by simpa using hv
    have hv9 := hid hv
    clear hv
    go_enter Try.func108, Try.ntmps108
    go_wp2_with fail
    refine wp_region_ext (by kernel_rfl) (by kernel_rfl) ?_
    repeat (go_big_quiet_step ((fail)))
    refine wpQuiet_nil ?_
    rintro w2 ⟨⟨_, x2⟩, rfl⟩
    go_wp2
    go_ret
    exact ⟨ret_bool (by rw [hvd]; rfl), x2⟩
end Go.Proofs.Ytenfgmpndpgbhaa
