/-
  WALKS: AddVerdict (both).
-/
import Derived.Test.YtmembjjgkideeaaMgEndSpl9

namespace Go.Proofs.Ytmembjjgkideeaa
open Go.RowKit

theorem okV_verok {v : Verdict} (h : okV v = true) : v.ok := by
  unfold okV inB at h
  simp only [Bool.and_eq_true, decide_eq_true_eq] at h
  obtain ⟨⟨⟨⟨h1, h2⟩, h3, h4⟩, h5⟩, h6, h7⟩ := h
  exact ⟨⟨by omega, by omega⟩, ⟨by omega, by omega⟩, ⟨by omega, by omega⟩⟩
/-- what AddVerdict answers -/
noncomputable def addV (xs : List Verdict) (x : Verdict) : List Verdict × Bool :=
  if areVers xs = true ∧ okV x = true ∧ idxV xs x = -1 ∧ ¬ xs.length = 8 then (putV xs x, true) else (xs, false)
def VsOutB (w : World) (e : Ending) (w2 : World) (r : List Verdict × Bool) : Prop := ∃ v2, e = .returned (.tuple #[v2, .bool r.2]) ∧ Bld verdictO w2 w.heap.size 32 v2 r.1 [] ∧ Ext w w2
theorem putV_len (xs : List Verdict) (x : Verdict) : (putV xs x).length = xs.length + 1 := by
  have := cntV_le xs x
  unfold putV
  simp only [List.length_append, List.length_take, List.length_cons, List.length_drop]
  omega
theorem addV_cnt (x : List Verdict) (y : Verdict) (h : x.length ≤ 1048576) : (lstMk verdictMk).cnt (addV x y).1 ≤ 4194304 := by
  refine Nat.le_trans (cntVerdictS_le _) ?_
  by_cases hc : areVers x = true ∧ okV y = true ∧ idxV x y = -1 ∧ ¬ x.length = 8
  · have := vers_len hc.1
    have := putV_len x y
    unfold addV
    rw [if_pos hc]
    show 4 * (putV x y).length ≤ _ 
    omega
  · unfold addV
    rw [if_neg hc]
    show 4 * x.length ≤ _
    omega
theorem addV_no {xs : List Verdict} {x : Verdict} (h : ¬ (areVers xs = true ∧ okV x = true ∧ idxV xs x = -1 ∧ ¬ xs.length = 8)) : addV xs x = (xs, false) := by unfold addV; rw [if_neg h]
theorem addV_yes {xs : List Verdict} {x : Verdict} (h : areVers xs = true ∧ okV x = true ∧ idxV xs x = -1 ∧ ¬ xs.length = 8) : addV xs x = (putV xs x, true) := by unfold addV; rw [if_pos h]

set_option maxHeartbeats 2000000 in
set_option maxRecDepth 20000 in
theorem spec_AddVerdictB (v : Value) (xs : List Verdict) (x : Verdict) (w : World) (h : Sl verdictR w v xs) (hl : xs.length ≤ 1048576) :
    Calls Try.prog 31 #[v, .agg #[.int .i64 x.a, .int .i64 x.b, .bool x.same, .int .i64 x.time]] w (VsOutB w · · (addV xs x)) := by
  obtain ⟨A, cap, rfl, hm⟩ := h.form
  have xb : Ext w (w.alloc (.cells #[.int .i64 x.a, .int .i64 x.b, .bool x.same, .int .i64 x.time] 32)) := (Ext.refl w).alloc _
  have HBX := hid (show ∀ W, Ext (w.alloc (.cells #[.int .i64 x.a, .int .i64 x.b, .bool x.same, .int .i64 x.time] 32)) W → W.cell? ⟨w.heap.size, 0, none⟩ = some (.int .i64 x.a) ∧ W.cell? ⟨w.heap.size, 1, none⟩ = some (.int .i64 x.b) ∧ W.cell? ⟨w.heap.size, 2, none⟩ = some (.bool x.same) ∧ W.cell? ⟨w.heap.size, 3, none⟩ = some (.int .i64 x.time) from fun W y => ⟨y.box.1 0, y.box.1 1, y.box.1 2, y.box.1 3⟩)
  go_enter Try.func31, Try.ntmps31
  go_wp2_with fail
  refine (spec_AreVerdicts _ xs _ (h.mono xb)).mono ?_
  rintro e w1 ⟨rfl, x1⟩
  cases hv : areVers xs with
  | false =>
    have HR := hid (addV_no (xs := xs) (x := x) (fun k => by rw [hv] at k; cases k.1))
    go_wp2_with fail
    refine (spec_l28CopyB _ xs _ (h.mono (xb.trans x1)) hl).mono ?_
    rintro e w9 ⟨v9, rfl, B9, x9⟩
    go_wp2
    refine bodyPost_ret (v := .tuple #[v9, .bool false]) (by simp [results, Try.results31, go_sem]) rfl ?_
    exact ⟨_, by rw [HR.out], by rw [HR.out]; exact B9.lowv (xb.trans x1).size, (xb.trans x1).trans x9⟩
  | true =>
    obtain ⟨b0, b1, b2, b3⟩ := HBX.out _ x1
    go_wp2_with fail
    refine (spec_valid x _).mono ?_
    rintro e w2 ⟨rfl, x2⟩
    have x12 := x1.trans x2
    clear b0 b1 b2 b3 x1 x2
    cases hk : okV x with
    | false =>
      have HR := hid (addV_no (xs := xs) (x := x) (fun k => by rw [hk] at k; cases k.2.1))
      go_wp2_with fail
      refine (spec_l28CopyB _ xs _ (h.mono (xb.trans x12)) hl).mono ?_
      rintro e w9 ⟨v9, rfl, B9, x9⟩
      go_wp2
      refine bodyPost_ret (v := .tuple #[v9, .bool false]) (by simp [results, Try.results31, go_sem]) rfl ?_
      exact ⟨_, by rw [HR.out], by rw [HR.out]; exact B9.lowv (xb.trans x12).size, (xb.trans x12).trans x9⟩
    | true =>
      obtain ⟨b0, b1, b2, b3⟩ := HBX.out _ x12
      go_wp2_with fail
      refine (spec_l28At _ xs x _ (h.mono (xb.trans x12))).mono ?_
      rintro e w3 ⟨rfl, x3⟩
      have x13 := x12.trans x3
      clear b0 b1 b2 b3 x12 x3
      rcases idxV_cases xs x with ⟨hj, hnm⟩ | ⟨j, hjl, hj, hxj⟩
      · rw [hj]
        by_cases h8 : xs.length = 8
        · have h8' : ((xs.length : Int) == 8) = true := by simp [h8]
          have H8 := hid h8
          have HAD := hid (addV_no (xs := xs) (x := x) (fun k => k.2.2.2 h8))
          clear h8
          go_wp2_with fail
          refine (spec_l28CopyB _ xs _ (h.mono (xb.trans x13)) hl).mono ?_
          rintro e w9 ⟨v9, rfl, B9, x9⟩
          go_wp2
          refine bodyPost_ret (v := .tuple #[v9, .bool false]) (by simp [results, Try.results31, go_sem]) rfl ?_
          exact ⟨_, by rw [HAD.out], by rw [HAD.out]; exact B9.lowv (xb.trans x13).size, (xb.trans x13).trans x9⟩
        · have HR := hid (addV_yes (xs := xs) (x := x) ⟨hv, hk, hj, h8⟩)
          have h8' : ((xs.length : Int) == 8) = false := by simp; omega
          have HN := hid h8
          have HK := hid hk
          have hcl := hid (cntV_le xs x)
          clear h8 hj hnm hv hk
          go_wp2_with fail
          go_loopw [6] (fun i wr => ∃ k : Nat, i = .int .i64 k ∧ k ≤ cntV xs x ∧ Ext (w.alloc (.cells #[.int .i64 x.a, .int .i64 x.b, .bool x.same, .int .i64 x.time] 32)) wr) (fun i _ => xs.length - (intOf i).toNat)
          case atStart => exact ⟨0, rfl, Nat.zero_le _, x13⟩
          case round =>
            clear x13
            obtain ⟨k, rfl, hkc, hx⟩ := hrel
            have hcl2 := hcl.out
            have xw := xb.trans hx
            by_cases hk2 : k < cntV xs x
            · have hlt : k < xs.length := by omega
              have hlt' : (k : Int) < (xs.length : Int) := by omega
              obtain ⟨b, off, rfl, hok, hc0, hc1, hc2, hc3⟩ := (h.mono xw).verdict hlt
              clear hok
              have hz0 : ∀ z : ExtOf wr, z.1.cell? ⟨b, off + k * 4, none⟩ = _ := fun z => z.2.cell hc0
              have hz1 : ∀ z : ExtOf wr, z.1.cell? ⟨b, off + k * 4 + 1, none⟩ = _ := fun z => z.2.cell hc1
              have hz2 : ∀ z : ExtOf wr, z.1.cell? ⟨b, off + k * 4 + 2, none⟩ = _ := fun z => z.2.cell hc2
              have hz3 : ∀ z : ExtOf wr, z.1.cell? ⟨b, off + k * 4 + 3, none⟩ = _ := fun z => z.2.cell hc3
              have hb0 := fun z : ExtOf wr => (HBX.out _ (hx.trans z.2)).1
              have hb1 := fun z : ExtOf wr => (HBX.out _ (hx.trans z.2)).2.1
              have hb2 := fun z : ExtOf wr => (HBX.out _ (hx.trans z.2)).2.2.1
              have hb3 := fun z : ExtOf wr => (HBX.out _ (hx.trans z.2)).2.2.2
              have hcmp := cntV_lt hk2 hlt
              have h64 := (cmpV_64 xs[k] x).out
              have HK2 := hid hk2
              clear hk2 hkc hcl2
              go_wp2_with fail
              refine wp_region_ext (by kernel_rfl) (by kernel_rfl) ?_
              repeat (go_big_quiet_step ((first | (go_at_call 55; exact quiet_ext (spec_cmp xs[k] x _)))))
              refine wpQuiet_nil ?_
              rintro w4 ⟨⟨_, x4⟩, rfl⟩
              go_wp2
              go_roundw
              case rel => exact ⟨k + 1, by go_num, HK2.out, hx.trans x4⟩
              case measure => simp [intOf]; omega
            · have hk : k = cntV xs x := by omega
              have hln : k ≤ xs.length := by omega
              by_cases hlt : k < xs.length
              · have hge : ¬ cmpV xs[k] x < 0 := by subst hk; exact cntV_at hlt
                obtain ⟨b, off, hA⟩ : ∃ b off, A = some ⟨b, off, none⟩ := by
                  obtain ⟨b, off, _, e, _⟩ := h.at_ hlt
                  exact ⟨b, off, e⟩
                subst hA
                have HKC := hid hk
                have hn := h.cap_
                have HTK := hid (fun (W : World) (y : Ext w W) => (h.mono y).take (k := k) (by omega))
                have HL1 := hid (show ([] : List Verdict).length + (xs.take k).length ≤ 1099511627776 by simp only [List.length_nil, List.length_take]; omega)
                have HL2 := hid (show (xs.take k).length + 1 ≤ 1099511627776 by rw [List.length_take]; omega)
                have HL3 := hid (show (xs.take k ++ [x]).length + (xs.drop k).length ≤ 1099511627776 by simp only [List.length_append, List.length_take, List.length_drop, List.length_cons, List.length_nil]; omega)
                have HOKX := hid (okV_verok HK.out)
                have hle := hid hl
                have a1 : k ≤ cap := by omega
                have a2 : (k : Int) ≤ (xs.length : Int) := by omega
                have a3 : (k : Int) ≤ (cap : Int) := by omega
                have a4 : k ≤ xs.length := by omega
                obtain ⟨A2, hA2, HTD0⟩ := h.tailv k (by omega)
                have HTD := hid (fun (W : World) (y : Ext w W) => HTD0.out W y)
                obtain ⟨b', off', e', hok, hc0, hc1, hc2, hc3⟩ := (h.mono xw).verdict hlt
                injection e' with e'
                injection e' with e1 e2 _
                subst e1; subst e2
                clear hok HTD0
                have hz0 : ∀ z : ExtOf wr, z.1.cell? ⟨b, off + k * 4, none⟩ = _ := fun z => z.2.cell hc0
                have hz1 : ∀ z : ExtOf wr, z.1.cell? ⟨b, off + k * 4 + 1, none⟩ = _ := fun z => z.2.cell hc1
                have hz2 : ∀ z : ExtOf wr, z.1.cell? ⟨b, off + k * 4 + 2, none⟩ = _ := fun z => z.2.cell hc2
                have hz3 : ∀ z : ExtOf wr, z.1.cell? ⟨b, off + k * 4 + 3, none⟩ = _ := fun z => z.2.cell hc3
                have hb0 := fun z : ExtOf wr => (HBX.out _ (hx.trans z.2)).1
                have hb1 := fun z : ExtOf wr => (HBX.out _ (hx.trans z.2)).2.1
                have hb2 := fun z : ExtOf wr => (HBX.out _ (hx.trans z.2)).2.2.1
                have hb3 := fun z : ExtOf wr => (HBX.out _ (hx.trans z.2)).2.2.2
                have h64 := (cmpV_64 xs[k] x).out
                clear hk hc0 hc1 hc2 hc3 hn hk2 hkc
                go_wp2_with fail
                refine wp_region_ext (by kernel_rfl) (by kernel_rfl) ?_
                repeat (go_big_quiet_step ((first | (go_at_call 55; exact quiet_ext (spec_cmp xs[k] x _)))))
                refine wpQuiet_nil ?_
                rintro w4 ⟨⟨_, x4⟩, rfl⟩
                clear hz0 hz1 hz2 hz3 hb0 hb1 hb2 hb3
                go_wp2_with fail
                have HBQ := hid (show ∀ W, Ext w4 W → W.cell? ⟨w.heap.size, 0, none⟩ = some (.int .i64 x.a) ∧ W.cell? ⟨w.heap.size, 1, none⟩ = some (.int .i64 x.b) ∧ W.cell? ⟨w.heap.size, 2, none⟩ = some (.bool x.same) ∧ W.cell? ⟨w.heap.size, 3, none⟩ = some (.int .i64 x.time) from fun W y => HBX.out _ ((hx.trans x4).trans y))
                obtain ⟨wq, hwq⟩ : ∃ wq, wq = w4 := ⟨_, rfl⟩
                have xq : Ext w wq := by rw [hwq]; exact xb.trans ((hx.trans x4))
                rw [← hwq] at HBQ ⊢
                clear hwq
                have HE1 := hid (show (wq.alloc (.cells #[] 32)).heap[wq.heap.size]? = some (.cells #[] 32 (0, 0)) from heap_alloc_new wq _)
                have HE2 := hid (show ((wq.alloc (.cells #[] 32)).alloc (.cells #[.int .i64 x.a, .int .i64 x.b, .bool x.same, .int .i64 x.time] 32)).heap[wq.heap.size]? = some (.cells #[] 32 (0, 0)) from (((Ext.refl (wq.alloc (.cells #[] 32))).alloc _).block (by simp)).trans (heap_alloc_new wq _))
                have HV2 := hid (show ((wq.alloc (.cells #[] 32)).alloc (.cells #[.int .i64 x.a, .int .i64 x.b, .bool x.same, .int .i64 x.time] 32)).heap[wq.heap.size + 1]? = some (.cells #[.int .i64 x.a, .int .i64 x.b, .bool x.same, .int .i64 x.time] 32 (0, 0)) from by have := heap_alloc_new (wq.alloc (.cells #[] 32)) (.cells #[.int .i64 x.a, .int .i64 x.b, .bool x.same, .int .i64 x.time] 32); rwa [World.size_alloc] at this)
                have HE3 := hid (show ((wq.alloc (.cells #[.int .i64 x.a, .int .i64 x.b, .bool x.same, .int .i64 x.time] 32)).alloc (.cells #[] 32)).heap[wq.heap.size + 1]? = some (.cells #[] 32 (0, 0)) from by have := heap_alloc_new (wq.alloc (.cells #[.int .i64 x.a, .int .i64 x.b, .bool x.same, .int .i64 x.time] 32)) (.cells #[] 32); rwa [World.size_alloc] at this)
                have HV3 := hid (show ((wq.alloc (.cells #[.int .i64 x.a, .int .i64 x.b, .bool x.same, .int .i64 x.time] 32)).alloc (.cells #[] 32)).heap[wq.heap.size]? = some (.cells #[.int .i64 x.a, .int .i64 x.b, .bool x.same, .int .i64 x.time] 32 (0, 0)) from (((Ext.refl (wq.alloc (.cells #[.int .i64 x.a, .int .i64 x.b, .bool x.same, .int .i64 x.time] 32))).alloc _).block (by simp)).trans (heap_alloc_new wq _))
                go_region_held3 (fun w' => w'.cell? ⟨w.heap.size, 0, none⟩ = some (.int .i64 x.a) ∧ w'.cell? ⟨w.heap.size, 1, none⟩ = some (.int .i64 x.b) ∧ w'.cell? ⟨w.heap.size, 2, none⟩ = some (.bool x.same) ∧ w'.cell? ⟨w.heap.size, 3, none⟩ = some (.int .i64 x.time)) (exact HBQ.out _ (by repeat (first | with_reducible exact Ext.refl _ | with_reducible assumption | with_reducible refine Ext.drew ?_ | with_reducible refine Ext.alloc ?_ _ | with_reducible refine Ext.trans ?_ (by with_reducible assumption)))) (first | (have hsecond := hB2; refine step_appv elemVer (by decide) rfl _ _ rfl hB2 rfl rfl (HTD.out _ (by repeat (first | with_reducible exact Ext.refl _ | with_reducible assumption | with_reducible refine Ext.drew ?_ | with_reducible refine Ext.alloc ?_ _ | with_reducible refine Ext.trans ?_ (by with_reducible assumption)))) HL3.out xs2.size (w0 := wq) (Nat.le_refl _) xs2 ?_; intro v6 w6 hB3 xs3 _) | (refine step_app1 (R := verdictO) elemVer (by decide) rfl _ _ rfl (hB1.ext ((Ext.refl w4).alloc (.cells #[.int .i64 x.a, .int .i64 x.b, .bool x.same, .int .i64 x.time] 32))) rfl w4.heap.size 1 rfl (heap_alloc_new w4 _) (one_ver _ _ _ _) (y := x) ⟨⟨rfl, HOKX.out⟩, rfl⟩ fresh_nil HL2.out (by decide) (by rw [World.size_alloc]; have := xs1.size; omega) (w0 := wq) (Nat.le_refl _) (by repeat (first | with_reducible exact Ext.refl _ | with_reducible assumption | with_reducible refine Ext.drew ?_ | with_reducible refine Ext.alloc ?_ _ | with_reducible refine Ext.trans ?_ (by with_reducible assumption))) ?_; intro v5 w5 hB2 xs2) | (refine step_app1 (R := verdictO) elemVer (by decide) rfl _ _ rfl (hB1) rfl (wq.heap.size + 1) 1 rfl ((hk1 _ (by simp <;> omega) (by simp [Value.ownBlock])).trans HV2.out) (one_ver _ _ _ _) (y := x) ⟨⟨rfl, HOKX.out⟩, rfl⟩ fresh_nil HL2.out (by decide) xs1.size (w0 := wq) (Nat.le_refl _) (by repeat (first | with_reducible exact Ext.refl _ | with_reducible assumption | with_reducible refine Ext.drew ?_ | with_reducible refine Ext.alloc ?_ _ | with_reducible refine Ext.trans ?_ (by with_reducible assumption))) ?_; intro v5 w5 hB2 xs2) | (refine step_app1 (R := verdictO) elemVer (by decide) rfl _ _ rfl (hB1) rfl wq.heap.size 1 rfl ((hk1 _ (by simp <;> omega) (by simp [Value.ownBlock])).trans HV3.out) (one_ver _ _ _ _) (y := x) ⟨⟨rfl, HOKX.out⟩, rfl⟩ fresh_nil HL2.out (by decide) xs1.size (w0 := wq) (Nat.le_refl _) (by repeat (first | with_reducible exact Ext.refl _ | with_reducible assumption | with_reducible refine Ext.drew ?_ | with_reducible refine Ext.alloc ?_ _ | with_reducible refine Ext.trans ?_ (by with_reducible assumption))) ?_; intro v5 w5 hB2 xs2) | (refine step_appv elemVer (by decide) rfl _ _ rfl (Bld.empv (R := verdictO) (base := wq.heap.size) (Nat.le_refl _) HE1.out) rfl rfl (HTK.out _ (by repeat (first | with_reducible exact Ext.refl _ | with_reducible assumption | with_reducible refine Ext.drew ?_ | with_reducible refine Ext.alloc ?_ _ | with_reducible refine Ext.trans ?_ (by with_reducible assumption)))) HL1.out (by simp <;> omega) (w0 := wq) (Nat.le_refl _) (by repeat (first | with_reducible exact Ext.refl _ | with_reducible assumption | with_reducible refine Ext.drew ?_ | with_reducible refine Ext.alloc ?_ _ | with_reducible refine Ext.trans ?_ (by with_reducible assumption))) ?_; intro v4 w4 hB1 xs1 hk1; rw [List.nil_append] at hB1) | (refine step_appv elemVer (by decide) rfl _ _ rfl (Bld.empv (R := verdictO) (base := wq.heap.size) (Nat.le_refl _) HE2.out) rfl rfl (HTK.out _ (by repeat (first | with_reducible exact Ext.refl _ | with_reducible assumption | with_reducible refine Ext.drew ?_ | with_reducible refine Ext.alloc ?_ _ | with_reducible refine Ext.trans ?_ (by with_reducible assumption)))) HL1.out (by simp <;> omega) (w0 := wq) (Nat.le_refl _) (by repeat (first | with_reducible exact Ext.refl _ | with_reducible assumption | with_reducible refine Ext.drew ?_ | with_reducible refine Ext.alloc ?_ _ | with_reducible refine Ext.trans ?_ (by with_reducible assumption))) ?_; intro v4 w4 hB1 xs1 hk1; rw [List.nil_append] at hB1) | (refine step_appv elemVer (by decide) rfl _ _ rfl (Bld.empv (R := verdictO) (base := wq.heap.size) (Nat.le_succ _) HE3.out) rfl rfl (HTK.out _ (by repeat (first | with_reducible exact Ext.refl _ | with_reducible assumption | with_reducible refine Ext.drew ?_ | with_reducible refine Ext.alloc ?_ _ | with_reducible refine Ext.trans ?_ (by with_reducible assumption)))) HL1.out (by simp <;> omega) (w0 := wq) (Nat.le_refl _) (by repeat (first | with_reducible exact Ext.refl _ | with_reducible assumption | with_reducible refine Ext.drew ?_ | with_reducible refine Ext.alloc ?_ _ | with_reducible refine Ext.trans ?_ (by with_reducible assumption))) ?_; intro v4 w4 hB1 xs1 hk1; rw [List.nil_append] at hB1))
                all_goals
                  have d1 := hB3.done.choose_spec.1
                  obtain ⟨A6, c6, e6, _⟩ := d1.form
                  rw [show (xs.take k ++ [x] ++ xs.drop k).length = xs.length + 1 by simp only [List.length_append, List.length_take, List.length_drop, List.length_cons, List.length_nil]; omega] at e6
                  subst e6
                  go_wp2
                  refine bodyPost_ret (v := .tuple #[.slice A6 (xs.length + 1) c6, .bool true]) (by simp [results, Try.results31, go_sem]) rfl ?_
                  exact ⟨_, by rw [HR.out], by rw [HR.out]; show Bld verdictO _ _ _ _ (putV xs x) []; unfold putV; rw [← HKC.out]; simpa using hB3.lowv xq.size, xq.trans xs3⟩
              · have hkl : k = xs.length := by omega
                subst hkl
                have HKC := hid hk
                have hn := h.cap_
                have HTK := hid (fun (W : World) (y : Ext w W) => (h.mono y).take (k := xs.length) (by omega))
                have HL1 := hid (show ([] : List Verdict).length + (xs.take xs.length).length ≤ 1099511627776 by simp only [List.length_nil, List.length_take]; omega)
                have HL2 := hid (show (xs.take xs.length).length + 1 ≤ 1099511627776 by rw [List.length_take]; omega)
                have HL3 := hid (show (xs.take xs.length ++ [x]).length + (([] : List Verdict)).length ≤ 1099511627776 by simp only [List.length_append, List.length_take, List.length_drop, List.length_cons, List.length_nil]; omega)
                have HOKX := hid (okV_verok HK.out)
                have hle := hid hl
                have a1 : xs.length ≤ cap := by omega
                have a2 : (xs.length : Int) ≤ (xs.length : Int) := by omega
                have a3 : (xs.length : Int) ≤ (cap : Int) := by omega
                have a4 : xs.length ≤ xs.length := by omega
                have HTD := hid (fun (W : World) (A' : Option Addr) (c' : Nat) (hc : c' ≤ 9223372036854775807) => (⟨_, _, rfl, ⟨Nat.zero_le _, by unfold maxLen; omega⟩, fun i hi => absurd hi (Nat.not_lt_zero _)⟩ : Sl verdictR W (.slice A' 0 c') []))
                have HCAP := hid hn.2.2
                clear hk hn hk2 hkc hlt
                go_wp2_with fail
                refine wp_region_ext (by kernel_rfl) (by kernel_rfl) ?_
                repeat (go_big_quiet_step ((fail)))
                refine wpQuiet_nil ?_
                rintro w4 ⟨⟨_, x4⟩, rfl⟩
                by_cases hcap : cap = xs.length
                · subst hcap
                  go_wp2_with fail
                  have HBQ := hid (show ∀ W, Ext w4 W → W.cell? ⟨w.heap.size, 0, none⟩ = some (.int .i64 x.a) ∧ W.cell? ⟨w.heap.size, 1, none⟩ = some (.int .i64 x.b) ∧ W.cell? ⟨w.heap.size, 2, none⟩ = some (.bool x.same) ∧ W.cell? ⟨w.heap.size, 3, none⟩ = some (.int .i64 x.time) from fun W y => HBX.out _ ((hx.trans x4).trans y))
                  obtain ⟨wq, hwq⟩ : ∃ wq, wq = w4 := ⟨_, rfl⟩
                  have xq : Ext w wq := by rw [hwq]; exact xb.trans ((hx.trans x4))
                  rw [← hwq] at HBQ ⊢
                  clear hwq
                  have HE1 := hid (show (wq.alloc (.cells #[] 32)).heap[wq.heap.size]? = some (.cells #[] 32 (0, 0)) from heap_alloc_new wq _)
                  have HE2 := hid (show ((wq.alloc (.cells #[] 32)).alloc (.cells #[.int .i64 x.a, .int .i64 x.b, .bool x.same, .int .i64 x.time] 32)).heap[wq.heap.size]? = some (.cells #[] 32 (0, 0)) from (((Ext.refl (wq.alloc (.cells #[] 32))).alloc _).block (by simp)).trans (heap_alloc_new wq _))
                  have HV2 := hid (show ((wq.alloc (.cells #[] 32)).alloc (.cells #[.int .i64 x.a, .int .i64 x.b, .bool x.same, .int .i64 x.time] 32)).heap[wq.heap.size + 1]? = some (.cells #[.int .i64 x.a, .int .i64 x.b, .bool x.same, .int .i64 x.time] 32 (0, 0)) from by have := heap_alloc_new (wq.alloc (.cells #[] 32)) (.cells #[.int .i64 x.a, .int .i64 x.b, .bool x.same, .int .i64 x.time] 32); rwa [World.size_alloc] at this)
                  have HE3 := hid (show ((wq.alloc (.cells #[.int .i64 x.a, .int .i64 x.b, .bool x.same, .int .i64 x.time] 32)).alloc (.cells #[] 32)).heap[wq.heap.size + 1]? = some (.cells #[] 32 (0, 0)) from by have := heap_alloc_new (wq.alloc (.cells #[.int .i64 x.a, .int .i64 x.b, .bool x.same, .int .i64 x.time] 32)) (.cells #[] 32); rwa [World.size_alloc] at this)
                  have HV3 := hid (show ((wq.alloc (.cells #[.int .i64 x.a, .int .i64 x.b, .bool x.same, .int .i64 x.time] 32)).alloc (.cells #[] 32)).heap[wq.heap.size]? = some (.cells #[.int .i64 x.a, .int .i64 x.b, .bool x.same, .int .i64 x.time] 32 (0, 0)) from (((Ext.refl (wq.alloc (.cells #[.int .i64 x.a, .int .i64 x.b, .bool x.same, .int .i64 x.time] 32))).alloc _).block (by simp)).trans (heap_alloc_new wq _))
                  go_region_held3 (fun w' => w'.cell? ⟨w.heap.size, 0, none⟩ = some (.int .i64 x.a) ∧ w'.cell? ⟨w.heap.size, 1, none⟩ = some (.int .i64 x.b) ∧ w'.cell? ⟨w.heap.size, 2, none⟩ = some (.bool x.same) ∧ w'.cell? ⟨w.heap.size, 3, none⟩ = some (.int .i64 x.time)) (exact HBQ.out _ (by repeat (first | with_reducible exact Ext.refl _ | with_reducible assumption | with_reducible refine Ext.drew ?_ | with_reducible refine Ext.alloc ?_ _ | with_reducible refine Ext.trans ?_ (by with_reducible assumption)))) (first | (have hsecond := hB2; refine step_appv elemVer (by decide) rfl _ _ rfl hB2 rfl rfl (HTD.out _ _ _ (by first | decide | (have := HCAP.out; omega))) HL3.out xs2.size (w0 := wq) (Nat.le_refl _) xs2 ?_; intro v6 w6 hB3 xs3 _) | (refine step_app1 (R := verdictO) elemVer (by decide) rfl _ _ rfl (hB1.ext ((Ext.refl w4).alloc (.cells #[.int .i64 x.a, .int .i64 x.b, .bool x.same, .int .i64 x.time] 32))) rfl w4.heap.size 1 rfl (heap_alloc_new w4 _) (one_ver _ _ _ _) (y := x) ⟨⟨rfl, HOKX.out⟩, rfl⟩ fresh_nil HL2.out (by decide) (by rw [World.size_alloc]; have := xs1.size; omega) (w0 := wq) (Nat.le_refl _) (by repeat (first | with_reducible exact Ext.refl _ | with_reducible assumption | with_reducible refine Ext.drew ?_ | with_reducible refine Ext.alloc ?_ _ | with_reducible refine Ext.trans ?_ (by with_reducible assumption))) ?_; intro v5 w5 hB2 xs2) | (refine step_app1 (R := verdictO) elemVer (by decide) rfl _ _ rfl (hB1) rfl (wq.heap.size + 1) 1 rfl ((hk1 _ (by simp <;> omega) (by simp [Value.ownBlock])).trans HV2.out) (one_ver _ _ _ _) (y := x) ⟨⟨rfl, HOKX.out⟩, rfl⟩ fresh_nil HL2.out (by decide) xs1.size (w0 := wq) (Nat.le_refl _) (by repeat (first | with_reducible exact Ext.refl _ | with_reducible assumption | with_reducible refine Ext.drew ?_ | with_reducible refine Ext.alloc ?_ _ | with_reducible refine Ext.trans ?_ (by with_reducible assumption))) ?_; intro v5 w5 hB2 xs2) | (refine step_app1 (R := verdictO) elemVer (by decide) rfl _ _ rfl (hB1) rfl wq.heap.size 1 rfl ((hk1 _ (by simp <;> omega) (by simp [Value.ownBlock])).trans HV3.out) (one_ver _ _ _ _) (y := x) ⟨⟨rfl, HOKX.out⟩, rfl⟩ fresh_nil HL2.out (by decide) xs1.size (w0 := wq) (Nat.le_refl _) (by repeat (first | with_reducible exact Ext.refl _ | with_reducible assumption | with_reducible refine Ext.drew ?_ | with_reducible refine Ext.alloc ?_ _ | with_reducible refine Ext.trans ?_ (by with_reducible assumption))) ?_; intro v5 w5 hB2 xs2) | (refine step_appv elemVer (by decide) rfl _ _ rfl (Bld.empv (R := verdictO) (base := wq.heap.size) (Nat.le_refl _) HE1.out) rfl rfl (HTK.out _ (by repeat (first | with_reducible exact Ext.refl _ | with_reducible assumption | with_reducible refine Ext.drew ?_ | with_reducible refine Ext.alloc ?_ _ | with_reducible refine Ext.trans ?_ (by with_reducible assumption)))) HL1.out (by simp <;> omega) (w0 := wq) (Nat.le_refl _) (by repeat (first | with_reducible exact Ext.refl _ | with_reducible assumption | with_reducible refine Ext.drew ?_ | with_reducible refine Ext.alloc ?_ _ | with_reducible refine Ext.trans ?_ (by with_reducible assumption))) ?_; intro v4 w4 hB1 xs1 hk1; rw [List.nil_append] at hB1) | (refine step_appv elemVer (by decide) rfl _ _ rfl (Bld.empv (R := verdictO) (base := wq.heap.size) (Nat.le_refl _) HE2.out) rfl rfl (HTK.out _ (by repeat (first | with_reducible exact Ext.refl _ | with_reducible assumption | with_reducible refine Ext.drew ?_ | with_reducible refine Ext.alloc ?_ _ | with_reducible refine Ext.trans ?_ (by with_reducible assumption)))) HL1.out (by simp <;> omega) (w0 := wq) (Nat.le_refl _) (by repeat (first | with_reducible exact Ext.refl _ | with_reducible assumption | with_reducible refine Ext.drew ?_ | with_reducible refine Ext.alloc ?_ _ | with_reducible refine Ext.trans ?_ (by with_reducible assumption))) ?_; intro v4 w4 hB1 xs1 hk1; rw [List.nil_append] at hB1) | (refine step_appv elemVer (by decide) rfl _ _ rfl (Bld.empv (R := verdictO) (base := wq.heap.size) (Nat.le_succ _) HE3.out) rfl rfl (HTK.out _ (by repeat (first | with_reducible exact Ext.refl _ | with_reducible assumption | with_reducible refine Ext.drew ?_ | with_reducible refine Ext.alloc ?_ _ | with_reducible refine Ext.trans ?_ (by with_reducible assumption)))) HL1.out (by simp <;> omega) (w0 := wq) (Nat.le_refl _) (by repeat (first | with_reducible exact Ext.refl _ | with_reducible assumption | with_reducible refine Ext.drew ?_ | with_reducible refine Ext.alloc ?_ _ | with_reducible refine Ext.trans ?_ (by with_reducible assumption))) ?_; intro v4 w4 hB1 xs1 hk1; rw [List.nil_append] at hB1))
                  all_goals
                    have d1 := hB3.done.choose_spec.1
                    obtain ⟨A6, c6, e6, _⟩ := d1.form
                    rw [show (xs.take xs.length ++ [x] ++ ([] : List Verdict)).length = xs.length + 1 by simp only [List.length_append, List.length_take, List.length_drop, List.length_cons, List.length_nil]; omega] at e6
                    subst e6
                    go_wp2
                    refine bodyPost_ret (v := .tuple #[.slice A6 (xs.length + 1) c6, .bool true]) (by simp [results, Try.results31, go_sem]) rfl ?_
                    exact ⟨_, by rw [HR.out], by rw [HR.out]; show Bld verdictO _ _ _ _ (putV xs x) []; unfold putV; rw [← HKC.out, List.drop_length]; simpa using hB3.lowv xq.size, xq.trans xs3⟩
                · go_wp2_with fail
                  have HBQ := hid (show ∀ W, Ext w4 W → W.cell? ⟨w.heap.size, 0, none⟩ = some (.int .i64 x.a) ∧ W.cell? ⟨w.heap.size, 1, none⟩ = some (.int .i64 x.b) ∧ W.cell? ⟨w.heap.size, 2, none⟩ = some (.bool x.same) ∧ W.cell? ⟨w.heap.size, 3, none⟩ = some (.int .i64 x.time) from fun W y => HBX.out _ ((hx.trans x4).trans y))
                  obtain ⟨wq, hwq⟩ : ∃ wq, wq = w4 := ⟨_, rfl⟩
                  have xq : Ext w wq := by rw [hwq]; exact xb.trans ((hx.trans x4))
                  rw [← hwq] at HBQ ⊢
                  clear hwq
                  have HE1 := hid (show (wq.alloc (.cells #[] 32)).heap[wq.heap.size]? = some (.cells #[] 32 (0, 0)) from heap_alloc_new wq _)
                  have HE2 := hid (show ((wq.alloc (.cells #[] 32)).alloc (.cells #[.int .i64 x.a, .int .i64 x.b, .bool x.same, .int .i64 x.time] 32)).heap[wq.heap.size]? = some (.cells #[] 32 (0, 0)) from (((Ext.refl (wq.alloc (.cells #[] 32))).alloc _).block (by simp)).trans (heap_alloc_new wq _))
                  have HV2 := hid (show ((wq.alloc (.cells #[] 32)).alloc (.cells #[.int .i64 x.a, .int .i64 x.b, .bool x.same, .int .i64 x.time] 32)).heap[wq.heap.size + 1]? = some (.cells #[.int .i64 x.a, .int .i64 x.b, .bool x.same, .int .i64 x.time] 32 (0, 0)) from by have := heap_alloc_new (wq.alloc (.cells #[] 32)) (.cells #[.int .i64 x.a, .int .i64 x.b, .bool x.same, .int .i64 x.time] 32); rwa [World.size_alloc] at this)
                  have HE3 := hid (show ((wq.alloc (.cells #[.int .i64 x.a, .int .i64 x.b, .bool x.same, .int .i64 x.time] 32)).alloc (.cells #[] 32)).heap[wq.heap.size + 1]? = some (.cells #[] 32 (0, 0)) from by have := heap_alloc_new (wq.alloc (.cells #[.int .i64 x.a, .int .i64 x.b, .bool x.same, .int .i64 x.time] 32)) (.cells #[] 32); rwa [World.size_alloc] at this)
                  have HV3 := hid (show ((wq.alloc (.cells #[.int .i64 x.a, .int .i64 x.b, .bool x.same, .int .i64 x.time] 32)).alloc (.cells #[] 32)).heap[wq.heap.size]? = some (.cells #[.int .i64 x.a, .int .i64 x.b, .bool x.same, .int .i64 x.time] 32 (0, 0)) from (((Ext.refl (wq.alloc (.cells #[.int .i64 x.a, .int .i64 x.b, .bool x.same, .int .i64 x.time] 32))).alloc _).block (by simp)).trans (heap_alloc_new wq _))
                  go_region_held3 (fun w' => w'.cell? ⟨w.heap.size, 0, none⟩ = some (.int .i64 x.a) ∧ w'.cell? ⟨w.heap.size, 1, none⟩ = some (.int .i64 x.b) ∧ w'.cell? ⟨w.heap.size, 2, none⟩ = some (.bool x.same) ∧ w'.cell? ⟨w.heap.size, 3, none⟩ = some (.int .i64 x.time)) (exact HBQ.out _ (by repeat (first | with_reducible exact Ext.refl _ | with_reducible assumption | with_reducible refine Ext.drew ?_ | with_reducible refine Ext.alloc ?_ _ | with_reducible refine Ext.trans ?_ (by with_reducible assumption)))) (first | (have hsecond := hB2; refine step_appv elemVer (by decide) rfl _ _ rfl hB2 rfl rfl (HTD.out _ _ _ (by first | decide | (have := HCAP.out; omega))) HL3.out xs2.size (w0 := wq) (Nat.le_refl _) xs2 ?_; intro v6 w6 hB3 xs3 _) | (refine step_app1 (R := verdictO) elemVer (by decide) rfl _ _ rfl (hB1.ext ((Ext.refl w4).alloc (.cells #[.int .i64 x.a, .int .i64 x.b, .bool x.same, .int .i64 x.time] 32))) rfl w4.heap.size 1 rfl (heap_alloc_new w4 _) (one_ver _ _ _ _) (y := x) ⟨⟨rfl, HOKX.out⟩, rfl⟩ fresh_nil HL2.out (by decide) (by rw [World.size_alloc]; have := xs1.size; omega) (w0 := wq) (Nat.le_refl _) (by repeat (first | with_reducible exact Ext.refl _ | with_reducible assumption | with_reducible refine Ext.drew ?_ | with_reducible refine Ext.alloc ?_ _ | with_reducible refine Ext.trans ?_ (by with_reducible assumption))) ?_; intro v5 w5 hB2 xs2) | (refine step_app1 (R := verdictO) elemVer (by decide) rfl _ _ rfl (hB1) rfl (wq.heap.size + 1) 1 rfl ((hk1 _ (by simp <;> omega) (by simp [Value.ownBlock])).trans HV2.out) (one_ver _ _ _ _) (y := x) ⟨⟨rfl, HOKX.out⟩, rfl⟩ fresh_nil HL2.out (by decide) xs1.size (w0 := wq) (Nat.le_refl _) (by repeat (first | with_reducible exact Ext.refl _ | with_reducible assumption | with_reducible refine Ext.drew ?_ | with_reducible refine Ext.alloc ?_ _ | with_reducible refine Ext.trans ?_ (by with_reducible assumption))) ?_; intro v5 w5 hB2 xs2) | (refine step_app1 (R := verdictO) elemVer (by decide) rfl _ _ rfl (hB1) rfl wq.heap.size 1 rfl ((hk1 _ (by simp <;> omega) (by simp [Value.ownBlock])).trans HV3.out) (one_ver _ _ _ _) (y := x) ⟨⟨rfl, HOKX.out⟩, rfl⟩ fresh_nil HL2.out (by decide) xs1.size (w0 := wq) (Nat.le_refl _) (by repeat (first | with_reducible exact Ext.refl _ | with_reducible assumption | with_reducible refine Ext.drew ?_ | with_reducible refine Ext.alloc ?_ _ | with_reducible refine Ext.trans ?_ (by with_reducible assumption))) ?_; intro v5 w5 hB2 xs2) | (refine step_appv elemVer (by decide) rfl _ _ rfl (Bld.empv (R := verdictO) (base := wq.heap.size) (Nat.le_refl _) HE1.out) rfl rfl (HTK.out _ (by repeat (first | with_reducible exact Ext.refl _ | with_reducible assumption | with_reducible refine Ext.drew ?_ | with_reducible refine Ext.alloc ?_ _ | with_reducible refine Ext.trans ?_ (by with_reducible assumption)))) HL1.out (by simp <;> omega) (w0 := wq) (Nat.le_refl _) (by repeat (first | with_reducible exact Ext.refl _ | with_reducible assumption | with_reducible refine Ext.drew ?_ | with_reducible refine Ext.alloc ?_ _ | with_reducible refine Ext.trans ?_ (by with_reducible assumption))) ?_; intro v4 w4 hB1 xs1 hk1; rw [List.nil_append] at hB1) | (refine step_appv elemVer (by decide) rfl _ _ rfl (Bld.empv (R := verdictO) (base := wq.heap.size) (Nat.le_refl _) HE2.out) rfl rfl (HTK.out _ (by repeat (first | with_reducible exact Ext.refl _ | with_reducible assumption | with_reducible refine Ext.drew ?_ | with_reducible refine Ext.alloc ?_ _ | with_reducible refine Ext.trans ?_ (by with_reducible assumption)))) HL1.out (by simp <;> omega) (w0 := wq) (Nat.le_refl _) (by repeat (first | with_reducible exact Ext.refl _ | with_reducible assumption | with_reducible refine Ext.drew ?_ | with_reducible refine Ext.alloc ?_ _ | with_reducible refine Ext.trans ?_ (by with_reducible assumption))) ?_; intro v4 w4 hB1 xs1 hk1; rw [List.nil_append] at hB1) | (refine step_appv elemVer (by decide) rfl _ _ rfl (Bld.empv (R := verdictO) (base := wq.heap.size) (Nat.le_succ _) HE3.out) rfl rfl (HTK.out _ (by repeat (first | with_reducible exact Ext.refl _ | with_reducible assumption | with_reducible refine Ext.drew ?_ | with_reducible refine Ext.alloc ?_ _ | with_reducible refine Ext.trans ?_ (by with_reducible assumption)))) HL1.out (by simp <;> omega) (w0 := wq) (Nat.le_refl _) (by repeat (first | with_reducible exact Ext.refl _ | with_reducible assumption | with_reducible refine Ext.drew ?_ | with_reducible refine Ext.alloc ?_ _ | with_reducible refine Ext.trans ?_ (by with_reducible assumption))) ?_; intro v4 w4 hB1 xs1 hk1; rw [List.nil_append] at hB1))
                  all_goals
                    have d1 := hB3.done.choose_spec.1
                    obtain ⟨A6, c6, e6, _⟩ := d1.form
                    rw [show (xs.take xs.length ++ [x] ++ ([] : List Verdict)).length = xs.length + 1 by simp only [List.length_append, List.length_take, List.length_drop, List.length_cons, List.length_nil]; omega] at e6
                    subst e6
                    go_wp2
                    refine bodyPost_ret (v := .tuple #[.slice A6 (xs.length + 1) c6, .bool true]) (by simp [results, Try.results31, go_sem]) rfl ?_
                    exact ⟨_, by rw [HR.out], by rw [HR.out]; show Bld verdictO _ _ _ _ (putV xs x) []; unfold putV; rw [← HKC.out, List.drop_length]; simpa using hB3.lowv xq.size, xq.trans xs3⟩
      · rw [hj]
        have HAD := hid (addV_no (xs := xs) (x := x) (fun k => by rw [hj] at k; exact absurd k.2.2.1 (by omega)))
        have hj0 : (0 : Int) ≤ (j : Int) := by omega
        clear hj hjl hxj
        go_wp2_with fail
        refine (spec_l28CopyB _ xs _ (h.mono (xb.trans x13)) hl).mono ?_
        rintro e w9 ⟨v9, rfl, B9, x9⟩
        go_wp2
        refine bodyPost_ret (v := .tuple #[v9, .bool false]) (by simp [results, Try.results31, go_sem]) rfl ?_
        exact ⟨_, by rw [HAD.out], by rw [HAD.out]; exact B9.lowv (xb.trans x13).size, (xb.trans x13).trans x9⟩
theorem spec_AddVerdict (v : Value) (xs : List Verdict) (x : Verdict) (w : World) (h : Sl verdictR w v xs) (hl : xs.length ≤ 1048576) :
    Calls Try.prog 31 #[v, .agg #[.int .i64 x.a, .int .i64 x.b, .bool x.same, .int .i64 x.time]] w (VsOut w · · (addV xs x)) :=
  (spec_AddVerdictB v xs x w h hl).mono fun e w2 ⟨v2, e1, hB, hx⟩ => by
    obtain ⟨F, d1, d2, d3⟩ := hB.done
    exact ⟨v2, F, e1, d1, ⟨d2, d3⟩, hx⟩
end Go.Proofs.Ytmembjjgkideeaa
