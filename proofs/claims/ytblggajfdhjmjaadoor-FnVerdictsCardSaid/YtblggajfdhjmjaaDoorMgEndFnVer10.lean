/-
  SEVERAL SMALL TEXTS LAID TOGETHER: RmV, AddV, DrawV, FnVl, AddW, DrawW.
-/
import Derived.Test.YtblggajfdhjmjaaDoorMgEndFnVer8
import Derived.Deep.RegionHeld3

namespace Go.Proofs.YtblggajfdhjmjaaDoor
open Go.RowKit

/-- what RemoveVerdict answers -/
noncomputable def rmV (xs : List Verdict) (x : Verdict) : List Verdict × Bool :=
  if areVers xs = true ∧ 0 ≤ idxV xs x then (xs.eraseIdx (idxV xs x).toNat, true) else (xs, false)
def VsOut (w : World) (e : Ending) (w2 : World) (r : List Verdict × Bool) : Prop := ∃ v2 F, e = .returned (.tuple #[v2, .bool r.2]) ∧ OwnSl verdictO w2 v2 r.1 F ∧ NewF w F ∧ Ext w w2
theorem rmV_cnt (x : List Verdict) (y : Verdict) (h : x.length ≤ 1048576) : (lstMk verdictMk).cnt (rmV x y).1 ≤ 4194304 := by
  refine Nat.le_trans (cntVerdictS_le _) ?_
  have : (rmV x y).1.length ≤ x.length := by
    unfold rmV
    split
    · rw [List.length_eraseIdx]; split <;> omega
    · exact Nat.le_refl _
  omega
theorem idxF_lt {α : Type} (p : α → Bool) : ∀ (xs : List α) (k : Nat), (idxF p k xs = -1 ∧ ∀ x ∈ xs, p x = false) ∨ ∃ j, j < xs.length ∧ idxF p k xs = ((k + j : Nat) : Int) ∧ ∃ h : j < xs.length, p xs[j] = true
  | [], k => .inl ⟨rfl, fun _ h => by cases h⟩
  | x :: xs, k => by
    by_cases hp : p x = true
    · exact .inr ⟨0, by simp, by simp [idxF, hp], by simp, by simpa using hp⟩
    · have hp' : p x = false := by simpa using hp
      rcases idxF_lt p xs (k + 1) with ⟨e, h⟩ | ⟨j, hj, e, hj2, h⟩
      · refine .inl ⟨by simp [idxF, hp', e], fun y hy => ?_⟩
        rcases List.mem_cons.1 hy with rfl | hy
        · exact hp'
        · exact h y hy
      · exact .inr ⟨j + 1, by simpa using hj, by simp only [idxF, hp', Bool.false_eq_true, if_false, e]; omega, by simpa using hj, by simpa using h⟩
theorem idxV_cases (xs : List Verdict) (x : Verdict) : (idxV xs x = -1 ∧ x ∉ xs) ∨ ∃ j, ∃ hj : j < xs.length, idxV xs x = (j : Int) ∧ xs[j] = x := by
  unfold idxV
  rcases idxF_lt (fun y => eqB y x) xs 0 with ⟨e, h⟩ | ⟨j, hj, e, hj2, h⟩
  · refine .inl ⟨e, fun hm => ?_⟩
    have := h x hm
    rw [eqB_self] at this; cases this
  · refine .inr ⟨j, hj, by rw [e]; simp, ?_⟩
    exact (eqB_iff _ _).1 h
theorem erase_take (xs : List Verdict) (j : Nat) : xs.take j ++ xs.drop (j + 1) = xs.eraseIdx j := (List.eraseIdx_eq_take_drop_succ xs j).symm
/-- 's[k:]' -/
theorem Sl.dropv {w : World} {b off n cap : Nat} {xs : List Verdict} (h : Sl verdictR w (.slice (some ⟨b, off, none⟩) n cap) xs) (k : Nat) (hk : k ≤ xs.length) (hc : ¬ cap = k) :
    Sl verdictR w (.slice (some ⟨b, off + k * 4, none⟩) (n - k) (cap - k)) (xs.drop k) := by
  obtain ⟨A, cap', he, hm, hi⟩ := h
  injection he with e1 e2 e3
  subst e1; subst e2; subst e3
  refine ⟨_, _, by rw [List.length_drop], ⟨by rw [List.length_drop]; omega, by omega⟩, fun i hlt => ?_⟩
  rw [List.length_drop] at hlt
  obtain ⟨b2, off2, cs, e, hr, hc2⟩ := hi (k + i) (by omega)
  injection e with e
  injection e with e4 e5 _
  subst e4; subst e5
  refine ⟨b, off + k * 4, cs, rfl, by rw [List.getElem_drop]; exact hr, fun j hj => ?_⟩
  have h4 : verdictR.n = 4 := rfl
  rw [← hc2 j hj, h4, show off + k * 4 + i * 4 + j = off + (k + i) * 4 + j by rw [Nat.add_mul]; omega]

theorem rmV_no {xs : List Verdict} {x : Verdict} (h : ¬ (areVers xs = true ∧ 0 ≤ idxV xs x)) : rmV xs x = (xs, false) := by unfold rmV; rw [if_neg h]
theorem rmV_yes {xs : List Verdict} {x : Verdict} {j : Nat} (h : areVers xs = true) (h2 : idxV xs x = (j : Int)) : rmV xs x = (xs.eraseIdx j, true) := by unfold rmV; rw [if_pos ⟨h, by rw [h2]; omega⟩, h2]; rfl
/-- 's[k:]', whatever the capacity -/
theorem Sl.tailv {w : World} {b off n cap : Nat} {xs : List Verdict} (h : Sl verdictR w (.slice (some ⟨b, off, none⟩) n cap) xs) (k : Nat) (hk : k ≤ xs.length) :
    ∃ A2 : Option Addr, (if cap = k then (some ⟨b, off, none⟩ : Option Addr) else some ⟨b, off + k * 4, none⟩) = A2 ∧ Hid (∀ W, Ext w W → Sl verdictR W (.slice A2 (xs.length - k) (cap - k)) (xs.drop k)) := by
  have hn := h.cap_
  by_cases hc : cap = k
  · refine ⟨_, rfl, fun W hW => ?_⟩
    rw [if_pos hc, show xs.drop k = [] from List.drop_of_length_le (by omega), show xs.length - k = 0 by omega]
    exact ⟨_, _, rfl, ⟨Nat.zero_le _, by unfold maxLen; omega⟩, fun i hi => absurd hi (Nat.not_lt_zero _)⟩
  · refine ⟨_, rfl, fun W hW => ?_⟩
    rw [if_neg hc, ← hn.1]
    exact (h.mono hW).dropv k hk hc

set_option maxHeartbeats 400000 in
set_option maxRecDepth 20000 in
theorem impl_RemoveVerdict (v : Value) (xs : List Verdict) (x : Verdict) (w : World) (h : Sl verdictR w v xs) (hl : xs.length ≤ 1048576) :
    Calls Tryd.prog 10 #[v, .agg #[.int .i64 x.a, .int .i64 x.b, .bool x.same, .int .i64 x.time]] w (VsOut w · · (rmV xs x)) := by
  obtain ⟨A, cap, rfl, hm⟩ := h.form
  have xb : Ext w (w.alloc (.cells #[.int .i64 x.a, .int .i64 x.b, .bool x.same, .int .i64 x.time] 26)) := (Ext.refl w).alloc _
  go_enter Tryd.func10, Tryd.ntmps10
  go_wp2_with fail
  refine (slices_Clone_vB _ xs _ (h.mono xb) hl).mono ?_
  rintro e w1 ⟨v1, rfl, hB, x1⟩
  have xb1 := xb.trans x1
  have c0 : w1.cell? ⟨w.heap.size, 0, none⟩ = some (.int .i64 x.a) := x1.box.1 0
  have c1 : w1.cell? ⟨w.heap.size, 1, none⟩ = some (.int .i64 x.b) := x1.box.1 1
  have c2 : w1.cell? ⟨w.heap.size, 2, none⟩ = some (.bool x.same) := x1.box.1 2
  have c3 : w1.cell? ⟨w.heap.size, 3, none⟩ = some (.int .i64 x.time) := x1.box.1 3
  go_wp2_with fail
  refine (slices_Index_v _ xs x _ (h.mono xb1)).mono ?_
  rintro e w2 ⟨rfl, x2⟩
  go_wp2_with fail
  refine (impl_AreVerdicts _ xs _ (h.mono (xb1.trans x2))).mono ?_
  rintro e w3 ⟨rfl, x3⟩
  have x13 := x2.trans x3
  clear x2 x3
  cases hv : areVers xs with
  | false =>
    have HR := hid (rmV_no (x := x) (fun k => by rw [hv] at k; cases k.1))
    clear hv
    obtain ⟨F3, d1, d2, d3⟩ := hB.done
    go_wp2
    refine bodyPost_ret (v := .tuple #[v1, .bool false]) (by simp [results, Tryd.results10, go_sem]) rfl ?_
    exact ⟨_, F3, by rw [HR.out], by rw [HR.out]; exact d1.ext x13, NewF.ext xb ⟨d2, d3⟩, xb1.trans x13⟩
  | true =>
    rcases idxV_cases xs x with ⟨hj, _⟩ | ⟨j, hjl, hj, hxj⟩
    · have HR := hid (rmV_no (x := x) (fun k => by rw [hj] at k; exact absurd k.2 (by decide)))
      rw [hj]
      clear hj hv
      obtain ⟨F3, d1, d2, d3⟩ := hB.done
      go_wp2
      refine bodyPost_ret (v := .tuple #[v1, .bool false]) (by simp [results, Tryd.results10, go_sem]) rfl ?_
      exact ⟨_, F3, by rw [HR.out], by rw [HR.out]; exact d1.ext x13, NewF.ext xb ⟨d2, d3⟩, xb1.trans x13⟩
    · have HR := hid (rmV_yes hv hj)
      rw [hj]
      have HJ := hid hjl
      have a5 : (j : Int) + 1 ≤ (xs.length : Int) := by omega
      have a6 : (j : Int) ≤ 1048576 := by omega
      clear hxj hj hv hjl
      go_wp2_with fail
      refine (slices_Delete_v _ xs j _ _ (hB.ext x13) HJ.out hl).mono ?_
      rintro e w4 ⟨v4, rfl, hB4, x4⟩
      obtain ⟨F3, d1, d2, d3⟩ := hB4.done
      go_wp2
      refine bodyPost_ret (v := .tuple #[v4, .bool true]) (by simp [results, Tryd.results10, go_sem]) rfl ?_
      exact ⟨_, F3, by rw [HR.out], by rw [HR.out]; exact d1, NewF.ext xb ⟨d2, d3⟩, x4 w (by rw [World.size_alloc]; omega) (xb1.trans x13)⟩
end Go.Proofs.YtblggajfdhjmjaaDoor

namespace Go.Proofs.YtblggajfdhjmjaaDoor
open Go.RowKit

theorem okV_verok {v : Verdict} (h : okV v = true) : v.ok := by
  unfold okV inB at h
  simp only [Bool.and_eq_true, decide_eq_true_eq] at h
  obtain ⟨⟨⟨⟨h1, h2⟩, h3, h4⟩, h5⟩, h6, h7⟩ := h
  exact ⟨⟨by omega, by omega⟩, ⟨by omega, by omega⟩, ⟨by omega, by omega⟩⟩
/-- what AddVerdict answers -/
noncomputable def addV (xs : List Verdict) (x : Verdict) : List Verdict × Bool :=
  if areVers xs = true ∧ okV x = true ∧ idxV xs x = -1 ∧ ¬ xs.length = 8 then (putV xs x, true) else (xs, false)
def VsOutB (w : World) (e : Ending) (w2 : World) (r : List Verdict × Bool) : Prop := ∃ v2, e = .returned (.tuple #[v2, .bool r.2]) ∧ Bld verdictO w2 w.heap.size 26 v2 r.1 [] ∧ Ext w w2
theorem putV_len (xs : List Verdict) (x : Verdict) : (putV xs x).length = xs.length + 1 := by
  have := cntV_le xs x
  unfold putV
  simp only [List.length_append, List.length_take, List.length_cons, List.length_drop]
  omega
theorem addV_cnt (x : List Verdict) (y : Verdict) (h : x.length ≤ 1048576) : (lstMk verdictMk).cnt (addV x y).1 ≤ 4194304 := by
  refine Nat.le_trans (cntVerdictS_le _) ?_
  by_cases hc : areVers x = true ∧ okV y = true ∧ idxV x y = -1 ∧ ¬ x.length = 8
  · have := vers_len hc.1
    have := putV_len x y
    unfold addV
    rw [if_pos hc]
    show 4 * (putV x y).length ≤ _ 
    omega
  · unfold addV
    rw [if_neg hc]
    show 4 * x.length ≤ _
    omega
theorem addV_no {xs : List Verdict} {x : Verdict} (h : ¬ (areVers xs = true ∧ okV x = true ∧ idxV xs x = -1 ∧ ¬ xs.length = 8)) : addV xs x = (xs, false) := by unfold addV; rw [if_neg h]
theorem addV_yes {xs : List Verdict} {x : Verdict} (h : areVers xs = true ∧ okV x = true ∧ idxV xs x = -1 ∧ ¬ xs.length = 8) : addV xs x = (putV xs x, true) := by unfold addV; rw [if_pos h]

set_option maxHeartbeats 2000000 in
set_option maxRecDepth 20000 in
theorem spec_AddVerdictB (v : Value) (xs : List Verdict) (x : Verdict) (w : World) (h : Sl verdictR w v xs) (hl : xs.length ≤ 1048576) :
    Calls Tryd.prog 7 #[v, .agg #[.int .i64 x.a, .int .i64 x.b, .bool x.same, .int .i64 x.time]] w (VsOutB w · · (addV xs x)) := by
  obtain ⟨A, cap, rfl, hm⟩ := h.form
  have xb : Ext w (w.alloc (.cells #[.int .i64 x.a, .int .i64 x.b, .bool x.same, .int .i64 x.time] 26)) := (Ext.refl w).alloc _
  have HBX := hid (show ∀ W, Ext (w.alloc (.cells #[.int .i64 x.a, .int .i64 x.b, .bool x.same, .int .i64 x.time] 26)) W → W.cell? ⟨w.heap.size, 0, none⟩ = some (.int .i64 x.a) ∧ W.cell? ⟨w.heap.size, 1, none⟩ = some (.int .i64 x.b) ∧ W.cell? ⟨w.heap.size, 2, none⟩ = some (.bool x.same) ∧ W.cell? ⟨w.heap.size, 3, none⟩ = some (.int .i64 x.time) from fun W y => ⟨y.box.1 0, y.box.1 1, y.box.1 2, y.box.1 3⟩)
  go_enter Tryd.func7, Tryd.ntmps7
  go_wp2_with fail
  refine (spec_AreVerdicts _ xs _ (h.mono xb)).mono ?_
  rintro e w1 ⟨rfl, x1⟩
  cases hv : areVers xs with
  | false =>
    have HR := hid (addV_no (xs := xs) (x := x) (fun k => by rw [hv] at k; cases k.1))
    go_wp2_with fail
    refine (spec_l28CopyB _ xs _ (h.mono (xb.trans x1)) hl).mono ?_
    rintro e w9 ⟨v9, rfl, B9, x9⟩
    go_wp2
    refine bodyPost_ret (v := .tuple #[v9, .bool false]) (by simp [results, Tryd.results7, go_sem]) rfl ?_
    exact ⟨_, by rw [HR.out], by rw [HR.out]; exact B9.lowv (xb.trans x1).size, (xb.trans x1).trans x9⟩
  | true =>
    obtain ⟨b0, b1, b2, b3⟩ := HBX.out _ x1
    go_wp2_with fail
    refine (spec_valid x _).mono ?_
    rintro e w2 ⟨rfl, x2⟩
    have x12 := x1.trans x2
    clear b0 b1 b2 b3 x1 x2
    cases hk : okV x with
    | false =>
      have HR := hid (addV_no (xs := xs) (x := x) (fun k => by rw [hk] at k; cases k.2.1))
      go_wp2_with fail
      refine (spec_l28CopyB _ xs _ (h.mono (xb.trans x12)) hl).mono ?_
      rintro e w9 ⟨v9, rfl, B9, x9⟩
      go_wp2
      refine bodyPost_ret (v := .tuple #[v9, .bool false]) (by simp [results, Tryd.results7, go_sem]) rfl ?_
      exact ⟨_, by rw [HR.out], by rw [HR.out]; exact B9.lowv (xb.trans x12).size, (xb.trans x12).trans x9⟩
    | true =>
      obtain ⟨b0, b1, b2, b3⟩ := HBX.out _ x12
      go_wp2_with fail
      refine (spec_l28At _ xs x _ (h.mono (xb.trans x12))).mono ?_
      rintro e w3 ⟨rfl, x3⟩
      have x13 := x12.trans x3
      clear b0 b1 b2 b3 x12 x3
      rcases idxV_cases xs x with ⟨hj, hnm⟩ | ⟨j, hjl, hj, hxj⟩
      · rw [hj]
        by_cases h8 : xs.length = 8
        · have h8' : ((xs.length : Int) == 8) = true := by simp [h8]
          have H8 := hid h8
          have HAD := hid (addV_no (xs := xs) (x := x) (fun k => k.2.2.2 h8))
          clear h8
          go_wp2_with fail
          refine (spec_l28CopyB _ xs _ (h.mono (xb.trans x13)) hl).mono ?_
          rintro e w9 ⟨v9, rfl, B9, x9⟩
          go_wp2
          refine bodyPost_ret (v := .tuple #[v9, .bool false]) (by simp [results, Tryd.results7, go_sem]) rfl ?_
          exact ⟨_, by rw [HAD.out], by rw [HAD.out]; exact B9.lowv (xb.trans x13).size, (xb.trans x13).trans x9⟩
        · have HR := hid (addV_yes (xs := xs) (x := x) ⟨hv, hk, hj, h8⟩)
          have h8' : ((xs.length : Int) == 8) = false := by simp; omega
          have HN := hid h8
          have HK := hid hk
          have hcl := hid (cntV_le xs x)
          clear h8 hj hnm hv hk
          go_wp2_with fail
          go_loopw [6] (fun i wr => ∃ k : Nat, i = .int .i64 k ∧ k ≤ cntV xs x ∧ Ext (w.alloc (.cells #[.int .i64 x.a, .int .i64 x.b, .bool x.same, .int .i64 x.time] 26)) wr) (fun i _ => xs.length - (intOf i).toNat)
          case atStart => exact ⟨0, rfl, Nat.zero_le _, x13⟩
          case round =>
            clear x13
            obtain ⟨k, rfl, hkc, hx⟩ := hrel
            have hcl2 := hcl.out
            have xw := xb.trans hx
            by_cases hk2 : k < cntV xs x
            · have hlt : k < xs.length := by omega
              have hlt' : (k : Int) < (xs.length : Int) := by omega
              obtain ⟨b, off, rfl, hok, hc0, hc1, hc2, hc3⟩ := (h.mono xw).verdict hlt
              clear hok
              have hz0 : ∀ z : ExtOf wr, z.1.cell? ⟨b, off + k * 4, none⟩ = _ := fun z => z.2.cell hc0
              have hz1 : ∀ z : ExtOf wr, z.1.cell? ⟨b, off + k * 4 + 1, none⟩ = _ := fun z => z.2.cell hc1
              have hz2 : ∀ z : ExtOf wr, z.1.cell? ⟨b, off + k * 4 + 2, none⟩ = _ := fun z => z.2.cell hc2
              have hz3 : ∀ z : ExtOf wr, z.1.cell? ⟨b, off + k * 4 + 3, none⟩ = _ := fun z => z.2.cell hc3
              have hb0 := fun z : ExtOf wr => (HBX.out _ (hx.trans z.2)).1
              have hb1 := fun z : ExtOf wr => (HBX.out _ (hx.trans z.2)).2.1
              have hb2 := fun z : ExtOf wr => (HBX.out _ (hx.trans z.2)).2.2.1
              have hb3 := fun z : ExtOf wr => (HBX.out _ (hx.trans z.2)).2.2.2
              have hcmp := cntV_lt hk2 hlt
              have h64 := (cmpV_64 xs[k] x).out
              have HK2 := hid hk2
              clear hk2 hkc hcl2
              go_wp2_with fail
              refine wp_region_ext (by kernel_rfl) (by kernel_rfl) ?_
              repeat (go_big_quiet_step ((first | (go_at_call 26; exact quiet_ext (spec_cmp xs[k] x _)))))
              refine wpQuiet_nil ?_
              rintro w4 ⟨⟨_, x4⟩, rfl⟩
              go_wp2
              go_roundw
              case rel => exact ⟨k + 1, by go_num, HK2.out, hx.trans x4⟩
              case measure => simp [intOf]; omega
            · have hk : k = cntV xs x := by omega
              have hln : k ≤ xs.length := by omega
              by_cases hlt : k < xs.length
              · have hge : ¬ cmpV xs[k] x < 0 := by subst hk; exact cntV_at hlt
                obtain ⟨b, off, hA⟩ : ∃ b off, A = some ⟨b, off, none⟩ := by
                  obtain ⟨b, off, _, e, _⟩ := h.at_ hlt
                  exact ⟨b, off, e⟩
                subst hA
                have HKC := hid hk
                have hn := h.cap_
                have HTK := hid (fun (W : World) (y : Ext w W) => (h.mono y).take (k := k) (by omega))
                have HL1 := hid (show ([] : List Verdict).length + (xs.take k).length ≤ 1099511627776 by simp only [List.length_nil, List.length_take]; omega)
                have HL2 := hid (show (xs.take k).length + 1 ≤ 1099511627776 by rw [List.length_take]; omega)
                have HL3 := hid (show (xs.take k ++ [x]).length + (xs.drop k).length ≤ 1099511627776 by simp only [List.length_append, List.length_take, List.length_drop, List.length_cons, List.length_nil]; omega)
                have HOKX := hid (okV_verok HK.out)
                have hle := hid hl
                have a1 : k ≤ cap := by omega
                have a2 : (k : Int) ≤ (xs.length : Int) := by omega
                have a3 : (k : Int) ≤ (cap : Int) := by omega
                have a4 : k ≤ xs.length := by omega
                obtain ⟨A2, hA2, HTD0⟩ := h.tailv k (by omega)
                have HTD := hid (fun (W : World) (y : Ext w W) => HTD0.out W y)
                obtain ⟨b', off', e', hok, hc0, hc1, hc2, hc3⟩ := (h.mono xw).verdict hlt
                injection e' with e'
                injection e' with e1 e2 _
                subst e1; subst e2
                clear hok HTD0
                have hz0 : ∀ z : ExtOf wr, z.1.cell? ⟨b, off + k * 4, none⟩ = _ := fun z => z.2.cell hc0
                have hz1 : ∀ z : ExtOf wr, z.1.cell? ⟨b, off + k * 4 + 1, none⟩ = _ := fun z => z.2.cell hc1
                have hz2 : ∀ z : ExtOf wr, z.1.cell? ⟨b, off + k * 4 + 2, none⟩ = _ := fun z => z.2.cell hc2
                have hz3 : ∀ z : ExtOf wr, z.1.cell? ⟨b, off + k * 4 + 3, none⟩ = _ := fun z => z.2.cell hc3
                have hb0 := fun z : ExtOf wr => (HBX.out _ (hx.trans z.2)).1
                have hb1 := fun z : ExtOf wr => (HBX.out _ (hx.trans z.2)).2.1
                have hb2 := fun z : ExtOf wr => (HBX.out _ (hx.trans z.2)).2.2.1
                have hb3 := fun z : ExtOf wr => (HBX.out _ (hx.trans z.2)).2.2.2
                have h64 := (cmpV_64 xs[k] x).out
                clear hk hc0 hc1 hc2 hc3 hn hk2 hkc
                go_wp2_with fail
                refine wp_region_ext (by kernel_rfl) (by kernel_rfl) ?_
                repeat (go_big_quiet_step ((first | (go_at_call 26; exact quiet_ext (spec_cmp xs[k] x _)))))
                refine wpQuiet_nil ?_
                rintro w4 ⟨⟨_, x4⟩, rfl⟩
                clear hz0 hz1 hz2 hz3 hb0 hb1 hb2 hb3
                go_wp2_with fail
                have HBQ := hid (show ∀ W, Ext w4 W → W.cell? ⟨w.heap.size, 0, none⟩ = some (.int .i64 x.a) ∧ W.cell? ⟨w.heap.size, 1, none⟩ = some (.int .i64 x.b) ∧ W.cell? ⟨w.heap.size, 2, none⟩ = some (.bool x.same) ∧ W.cell? ⟨w.heap.size, 3, none⟩ = some (.int .i64 x.time) from fun W y => HBX.out _ ((hx.trans x4).trans y))
                obtain ⟨wq, hwq⟩ : ∃ wq, wq = w4 := ⟨_, rfl⟩
                have xq : Ext w wq := by rw [hwq]; exact xb.trans ((hx.trans x4))
                rw [← hwq] at HBQ ⊢
                clear hwq
                have HE1 := hid (show (wq.alloc (.cells #[] 26)).heap[wq.heap.size]? = some (.cells #[] 26 (0, 0)) from heap_alloc_new wq _)
                have HE2 := hid (show ((wq.alloc (.cells #[] 26)).alloc (.cells #[.int .i64 x.a, .int .i64 x.b, .bool x.same, .int .i64 x.time] 26)).heap[wq.heap.size]? = some (.cells #[] 26 (0, 0)) from (((Ext.refl (wq.alloc (.cells #[] 26))).alloc _).block (by simp)).trans (heap_alloc_new wq _))
                have HV2 := hid (show ((wq.alloc (.cells #[] 26)).alloc (.cells #[.int .i64 x.a, .int .i64 x.b, .bool x.same, .int .i64 x.time] 26)).heap[wq.heap.size + 1]? = some (.cells #[.int .i64 x.a, .int .i64 x.b, .bool x.same, .int .i64 x.time] 26 (0, 0)) from by have := heap_alloc_new (wq.alloc (.cells #[] 26)) (.cells #[.int .i64 x.a, .int .i64 x.b, .bool x.same, .int .i64 x.time] 26); rwa [World.size_alloc] at this)
                have HE3 := hid (show ((wq.alloc (.cells #[.int .i64 x.a, .int .i64 x.b, .bool x.same, .int .i64 x.time] 26)).alloc (.cells #[] 26)).heap[wq.heap.size + 1]? = some (.cells #[] 26 (0, 0)) from by have := heap_alloc_new (wq.alloc (.cells #[.int .i64 x.a, .int .i64 x.b, .bool x.same, .int .i64 x.time] 26)) (.cells #[] 26); rwa [World.size_alloc] at this)
                have HV3 := hid (show ((wq.alloc (.cells #[.int .i64 x.a, .int .i64 x.b, .bool x.same, .int .i64 x.time] 26)).alloc (.cells #[] 26)).heap[wq.heap.size]? = some (.cells #[.int .i64 x.a, .int .i64 x.b, .bool x.same, .int .i64 x.time] 26 (0, 0)) from (((Ext.refl (wq.alloc (.cells #[.int .i64 x.a, .int .i64 x.b, .bool x.same, .int .i64 x.time] 26))).alloc _).block (by simp)).trans (heap_alloc_new wq _))
                go_region_held3 (fun w' => w'.cell? ⟨w.heap.size, 0, none⟩ = some (.int .i64 x.a) ∧ w'.cell? ⟨w.heap.size, 1, none⟩ = some (.int .i64 x.b) ∧ w'.cell? ⟨w.heap.size, 2, none⟩ = some (.bool x.same) ∧ w'.cell? ⟨w.heap.size, 3, none⟩ = some (.int .i64 x.time)) (exact HBQ.out _ (by repeat (first | with_reducible exact Ext.refl _ | with_reducible assumption | with_reducible refine Ext.drew ?_ | with_reducible refine Ext.alloc ?_ _ | with_reducible refine Ext.trans ?_ (by with_reducible assumption)))) (first | (have hsecond := hB2; refine step_appv elemVer (by decide) rfl _ _ rfl hB2 rfl rfl (HTD.out _ (by repeat (first | with_reducible exact Ext.refl _ | with_reducible assumption | with_reducible refine Ext.drew ?_ | with_reducible refine Ext.alloc ?_ _ | with_reducible refine Ext.trans ?_ (by with_reducible assumption)))) HL3.out xs2.size (w0 := wq) (Nat.le_refl _) xs2 ?_; intro v6 w6 hB3 xs3 _) | (refine step_app1 (R := verdictO) elemVer (by decide) rfl _ _ rfl (hB1.ext ((Ext.refl w4).alloc (.cells #[.int .i64 x.a, .int .i64 x.b, .bool x.same, .int .i64 x.time] 26))) rfl w4.heap.size 1 rfl (heap_alloc_new w4 _) (one_ver _ _ _ _) (y := x) ⟨⟨rfl, HOKX.out⟩, rfl⟩ fresh_nil HL2.out (by decide) (by rw [World.size_alloc]; have := xs1.size; omega) (w0 := wq) (Nat.le_refl _) (by repeat (first | with_reducible exact Ext.refl _ | with_reducible assumption | with_reducible refine Ext.drew ?_ | with_reducible refine Ext.alloc ?_ _ | with_reducible refine Ext.trans ?_ (by with_reducible assumption))) ?_; intro v5 w5 hB2 xs2) | (refine step_app1 (R := verdictO) elemVer (by decide) rfl _ _ rfl (hB1) rfl (wq.heap.size + 1) 1 rfl ((hk1 _ (by simp <;> omega) (by simp [Value.ownBlock])).trans HV2.out) (one_ver _ _ _ _) (y := x) ⟨⟨rfl, HOKX.out⟩, rfl⟩ fresh_nil HL2.out (by decide) xs1.size (w0 := wq) (Nat.le_refl _) (by repeat (first | with_reducible exact Ext.refl _ | with_reducible assumption | with_reducible refine Ext.drew ?_ | with_reducible refine Ext.alloc ?_ _ | with_reducible refine Ext.trans ?_ (by with_reducible assumption))) ?_; intro v5 w5 hB2 xs2) | (refine step_app1 (R := verdictO) elemVer (by decide) rfl _ _ rfl (hB1) rfl wq.heap.size 1 rfl ((hk1 _ (by simp <;> omega) (by simp [Value.ownBlock])).trans HV3.out) (one_ver _ _ _ _) (y := x) ⟨⟨rfl, HOKX.out⟩, rfl⟩ fresh_nil HL2.out (by decide) xs1.size (w0 := wq) (Nat.le_refl _) (by repeat (first | with_reducible exact Ext.refl _ | with_reducible assumption | with_reducible refine Ext.drew ?_ | with_reducible refine Ext.alloc ?_ _ | with_reducible refine Ext.trans ?_ (by with_reducible assumption))) ?_; intro v5 w5 hB2 xs2) | (refine step_appv elemVer (by decide) rfl _ _ rfl (Bld.empv (R := verdictO) (base := wq.heap.size) (Nat.le_refl _) HE1.out) rfl rfl (HTK.out _ (by repeat (first | with_reducible exact Ext.refl _ | with_reducible assumption | with_reducible refine Ext.drew ?_ | with_reducible refine Ext.alloc ?_ _ | with_reducible refine Ext.trans ?_ (by with_reducible assumption)))) HL1.out (by simp <;> omega) (w0 := wq) (Nat.le_refl _) (by repeat (first | with_reducible exact Ext.refl _ | with_reducible assumption | with_reducible refine Ext.drew ?_ | with_reducible refine Ext.alloc ?_ _ | with_reducible refine Ext.trans ?_ (by with_reducible assumption))) ?_; intro v4 w4 hB1 xs1 hk1; rw [List.nil_append] at hB1) | (refine step_appv elemVer (by decide) rfl _ _ rfl (Bld.empv (R := verdictO) (base := wq.heap.size) (Nat.le_refl _) HE2.out) rfl rfl (HTK.out _ (by repeat (first | with_reducible exact Ext.refl _ | with_reducible assumption | with_reducible refine Ext.drew ?_ | with_reducible refine Ext.alloc ?_ _ | with_reducible refine Ext.trans ?_ (by with_reducible assumption)))) HL1.out (by simp <;> omega) (w0 := wq) (Nat.le_refl _) (by repeat (first | with_reducible exact Ext.refl _ | with_reducible assumption | with_reducible refine Ext.drew ?_ | with_reducible refine Ext.alloc ?_ _ | with_reducible refine Ext.trans ?_ (by with_reducible assumption))) ?_; intro v4 w4 hB1 xs1 hk1; rw [List.nil_append] at hB1) | (refine step_appv elemVer (by decide) rfl _ _ rfl (Bld.empv (R := verdictO) (base := wq.heap.size) (Nat.le_succ _) HE3.out) rfl rfl (HTK.out _ (by repeat (first | with_reducible exact Ext.refl _ | with_reducible assumption | with_reducible refine Ext.drew ?_ | with_reducible refine Ext.alloc ?_ _ | with_reducible refine Ext.trans ?_ (by with_reducible assumption)))) HL1.out (by simp <;> omega) (w0 := wq) (Nat.le_refl _) (by repeat (first | with_reducible exact Ext.refl _ | with_reducible assumption | with_reducible refine Ext.drew ?_ | with_reducible refine Ext.alloc ?_ _ | with_reducible refine Ext.trans ?_ (by with_reducible assumption))) ?_; intro v4 w4 hB1 xs1 hk1; rw [List.nil_append] at hB1))
                all_goals
                  have d1 := hB3.done.choose_spec.1
                  obtain ⟨A6, c6, e6, _⟩ := d1.form
                  rw [show (xs.take k ++ [x] ++ xs.drop k).length = xs.length + 1 by simp only [List.length_append, List.length_take, List.length_drop, List.length_cons, List.length_nil]; omega] at e6
                  subst e6
                  go_wp2
                  refine bodyPost_ret (v := .tuple #[.slice A6 (xs.length + 1) c6, .bool true]) (by simp [results, Tryd.results7, go_sem]) rfl ?_
                  exact ⟨_, by rw [HR.out], by rw [HR.out]; show Bld verdictO _ _ _ _ (putV xs x) []; unfold putV; rw [← HKC.out]; simpa using hB3.lowv xq.size, xq.trans xs3⟩
              · have hkl : k = xs.length := by omega
                subst hkl
                have HKC := hid hk
                have hn := h.cap_
                have HTK := hid (fun (W : World) (y : Ext w W) => (h.mono y).take (k := xs.length) (by omega))
                have HL1 := hid (show ([] : List Verdict).length + (xs.take xs.length).length ≤ 1099511627776 by simp only [List.length_nil, List.length_take]; omega)
                have HL2 := hid (show (xs.take xs.length).length + 1 ≤ 1099511627776 by rw [List.length_take]; omega)
                have HL3 := hid (show (xs.take xs.length ++ [x]).length + (([] : List Verdict)).length ≤ 1099511627776 by simp only [List.length_append, List.length_take, List.length_drop, List.length_cons, List.length_nil]; omega)
                have HOKX := hid (okV_verok HK.out)
                have hle := hid hl
                have a1 : xs.length ≤ cap := by omega
                have a2 : (xs.length : Int) ≤ (xs.length : Int) := by omega
                have a3 : (xs.length : Int) ≤ (cap : Int) := by omega
                have a4 : xs.length ≤ xs.length := by omega
                have HTD := hid (fun (W : World) (A' : Option Addr) (c' : Nat) (hc : c' ≤ 9223372036854775807) => (⟨_, _, rfl, ⟨Nat.zero_le _, by unfold maxLen; omega⟩, fun i hi => absurd hi (Nat.not_lt_zero _)⟩ : Sl verdictR W (.slice A' 0 c') []))
                have HCAP := hid hn.2.2
                clear hk hn hk2 hkc hlt
                go_wp2_with fail
                refine wp_region_ext (by kernel_rfl) (by kernel_rfl) ?_
                repeat (go_big_quiet_step ((fail)))
                refine wpQuiet_nil ?_
                rintro w4 ⟨⟨_, x4⟩, rfl⟩
                by_cases hcap : cap = xs.length
                · subst hcap
                  go_wp2_with fail
                  have HBQ := hid (show ∀ W, Ext w4 W → W.cell? ⟨w.heap.size, 0, none⟩ = some (.int .i64 x.a) ∧ W.cell? ⟨w.heap.size, 1, none⟩ = some (.int .i64 x.b) ∧ W.cell? ⟨w.heap.size, 2, none⟩ = some (.bool x.same) ∧ W.cell? ⟨w.heap.size, 3, none⟩ = some (.int .i64 x.time) from fun W y => HBX.out _ ((hx.trans x4).trans y))
                  obtain ⟨wq, hwq⟩ : ∃ wq, wq = w4 := ⟨_, rfl⟩
                  have xq : Ext w wq := by rw [hwq]; exact xb.trans ((hx.trans x4))
                  rw [← hwq] at HBQ ⊢
                  clear hwq
                  have HE1 := hid (show (wq.alloc (.cells #[] 26)).heap[wq.heap.size]? = some (.cells #[] 26 (0, 0)) from heap_alloc_new wq _)
                  have HE2 := hid (show ((wq.alloc (.cells #[] 26)).alloc (.cells #[.int .i64 x.a, .int .i64 x.b, .bool x.same, .int .i64 x.time] 26)).heap[wq.heap.size]? = some (.cells #[] 26 (0, 0)) from (((Ext.refl (wq.alloc (.cells #[] 26))).alloc _).block (by simp)).trans (heap_alloc_new wq _))
                  have HV2 := hid (show ((wq.alloc (.cells #[] 26)).alloc (.cells #[.int .i64 x.a, .int .i64 x.b, .bool x.same, .int .i64 x.time] 26)).heap[wq.heap.size + 1]? = some (.cells #[.int .i64 x.a, .int .i64 x.b, .bool x.same, .int .i64 x.time] 26 (0, 0)) from by have := heap_alloc_new (wq.alloc (.cells #[] 26)) (.cells #[.int .i64 x.a, .int .i64 x.b, .bool x.same, .int .i64 x.time] 26); rwa [World.size_alloc] at this)
                  have HE3 := hid (show ((wq.alloc (.cells #[.int .i64 x.a, .int .i64 x.b, .bool x.same, .int .i64 x.time] 26)).alloc (.cells #[] 26)).heap[wq.heap.size + 1]? = some (.cells #[] 26 (0, 0)) from by have := heap_alloc_new (wq.alloc (.cells #[.int .i64 x.a, .int .i64 x.b, .bool x.same, .int .i64 x.time] 26)) (.cells #[] 26); rwa [World.size_alloc] at this)
                  have HV3 := hid (show ((wq.alloc (.cells #[.int .i64 x.a, .int .i64 x.b, .bool x.same, .int .i64 x.time] 26)).alloc (.cells #[] 26)).heap[wq.heap.size]? = some (.cells #[.int .i64 x.a, .int .i64 x.b, .bool x.same, .int .i64 x.time] 26 (0, 0)) from (((Ext.refl (wq.alloc (.cells #[.int .i64 x.a, .int .i64 x.b, .bool x.same, .int .i64 x.time] 26))).alloc _).block (by simp)).trans (heap_alloc_new wq _))
                  go_region_held3 (fun w' => w'.cell? ⟨w.heap.size, 0, none⟩ = some (.int .i64 x.a) ∧ w'.cell? ⟨w.heap.size, 1, none⟩ = some (.int .i64 x.b) ∧ w'.cell? ⟨w.heap.size, 2, none⟩ = some (.bool x.same) ∧ w'.cell? ⟨w.heap.size, 3, none⟩ = some (.int .i64 x.time)) (exact HBQ.out _ (by repeat (first | with_reducible exact Ext.refl _ | with_reducible assumption | with_reducible refine Ext.drew ?_ | with_reducible refine Ext.alloc ?_ _ | with_reducible refine Ext.trans ?_ (by with_reducible assumption)))) (first | (have hsecond := hB2; refine step_appv elemVer (by decide) rfl _ _ rfl hB2 rfl rfl (HTD.out _ _ _ (by first | decide | (have := HCAP.out; omega))) HL3.out xs2.size (w0 := wq) (Nat.le_refl _) xs2 ?_; intro v6 w6 hB3 xs3 _) | (refine step_app1 (R := verdictO) elemVer (by decide) rfl _ _ rfl (hB1.ext ((Ext.refl w4).alloc (.cells #[.int .i64 x.a, .int .i64 x.b, .bool x.same, .int .i64 x.time] 26))) rfl w4.heap.size 1 rfl (heap_alloc_new w4 _) (one_ver _ _ _ _) (y := x) ⟨⟨rfl, HOKX.out⟩, rfl⟩ fresh_nil HL2.out (by decide) (by rw [World.size_alloc]; have := xs1.size; omega) (w0 := wq) (Nat.le_refl _) (by repeat (first | with_reducible exact Ext.refl _ | with_reducible assumption | with_reducible refine Ext.drew ?_ | with_reducible refine Ext.alloc ?_ _ | with_reducible refine Ext.trans ?_ (by with_reducible assumption))) ?_; intro v5 w5 hB2 xs2) | (refine step_app1 (R := verdictO) elemVer (by decide) rfl _ _ rfl (hB1) rfl (wq.heap.size + 1) 1 rfl ((hk1 _ (by simp <;> omega) (by simp [Value.ownBlock])).trans HV2.out) (one_ver _ _ _ _) (y := x) ⟨⟨rfl, HOKX.out⟩, rfl⟩ fresh_nil HL2.out (by decide) xs1.size (w0 := wq) (Nat.le_refl _) (by repeat (first | with_reducible exact Ext.refl _ | with_reducible assumption | with_reducible refine Ext.drew ?_ | with_reducible refine Ext.alloc ?_ _ | with_reducible refine Ext.trans ?_ (by with_reducible assumption))) ?_; intro v5 w5 hB2 xs2) | (refine step_app1 (R := verdictO) elemVer (by decide) rfl _ _ rfl (hB1) rfl wq.heap.size 1 rfl ((hk1 _ (by simp <;> omega) (by simp [Value.ownBlock])).trans HV3.out) (one_ver _ _ _ _) (y := x) ⟨⟨rfl, HOKX.out⟩, rfl⟩ fresh_nil HL2.out (by decide) xs1.size (w0 := wq) (Nat.le_refl _) (by repeat (first | with_reducible exact Ext.refl _ | with_reducible assumption | with_reducible refine Ext.drew ?_ | with_reducible refine Ext.alloc ?_ _ | with_reducible refine Ext.trans ?_ (by with_reducible assumption))) ?_; intro v5 w5 hB2 xs2) | (refine step_appv elemVer (by decide) rfl _ _ rfl (Bld.empv (R := verdictO) (base := wq.heap.size) (Nat.le_refl _) HE1.out) rfl rfl (HTK.out _ (by repeat (first | with_reducible exact Ext.refl _ | with_reducible assumption | with_reducible refine Ext.drew ?_ | with_reducible refine Ext.alloc ?_ _ | with_reducible refine Ext.trans ?_ (by with_reducible assumption)))) HL1.out (by simp <;> omega) (w0 := wq) (Nat.le_refl _) (by repeat (first | with_reducible exact Ext.refl _ | with_reducible assumption | with_reducible refine Ext.drew ?_ | with_reducible refine Ext.alloc ?_ _ | with_reducible refine Ext.trans ?_ (by with_reducible assumption))) ?_; intro v4 w4 hB1 xs1 hk1; rw [List.nil_append] at hB1) | (refine step_appv elemVer (by decide) rfl _ _ rfl (Bld.empv (R := verdictO) (base := wq.heap.size) (Nat.le_refl _) HE2.out) rfl rfl (HTK.out _ (by repeat (first | with_reducible exact Ext.refl _ | with_reducible assumption | with_reducible refine Ext.drew ?_ | with_reducible refine Ext.alloc ?_ _ | with_reducible refine Ext.trans ?_ (by with_reducible assumption)))) HL1.out (by simp <;> omega) (w0 := wq) (Nat.le_refl _) (by repeat (first | with_reducible exact Ext.refl _ | with_reducible assumption | with_reducible refine Ext.drew ?_ | with_reducible refine Ext.alloc ?_ _ | with_reducible refine Ext.trans ?_ (by with_reducible assumption))) ?_; intro v4 w4 hB1 xs1 hk1; rw [List.nil_append] at hB1) | (refine step_appv elemVer (by decide) rfl _ _ rfl (Bld.empv (R := verdictO) (base := wq.heap.size) (Nat.le_succ _) HE3.out) rfl rfl (HTK.out _ (by repeat (first | with_reducible exact Ext.refl _ | with_reducible assumption | with_reducible refine Ext.drew ?_ | with_reducible refine Ext.alloc ?_ _ | with_reducible refine Ext.trans ?_ (by with_reducible assumption)))) HL1.out (by simp <;> omega) (w0 := wq) (Nat.le_refl _) (by repeat (first | with_reducible exact Ext.refl _ | with_reducible assumption | with_reducible refine Ext.drew ?_ | with_reducible refine Ext.alloc ?_ _ | with_reducible refine Ext.trans ?_ (by with_reducible assumption))) ?_; intro v4 w4 hB1 xs1 hk1; rw [List.nil_append] at hB1))
                  all_goals
                    have d1 := hB3.done.choose_spec.1
                    obtain ⟨A6, c6, e6, _⟩ := d1.form
                    rw [show (xs.take xs.length ++ [x] ++ ([] : List Verdict)).length = xs.length + 1 by simp only [List.length_append, List.length_take, List.length_drop, List.length_cons, List.length_nil]; omega] at e6
                    subst e6
                    go_wp2
                    refine bodyPost_ret (v := .tuple #[.slice A6 (xs.length + 1) c6, .bool true]) (by simp [results, Tryd.results7, go_sem]) rfl ?_
                    exact ⟨_, by rw [HR.out], by rw [HR.out]; show Bld verdictO _ _ _ _ (putV xs x) []; unfold putV; rw [← HKC.out, List.drop_length]; simpa using hB3.lowv xq.size, xq.trans xs3⟩
                · go_wp2_with fail
                  have HBQ := hid (show ∀ W, Ext w4 W → W.cell? ⟨w.heap.size, 0, none⟩ = some (.int .i64 x.a) ∧ W.cell? ⟨w.heap.size, 1, none⟩ = some (.int .i64 x.b) ∧ W.cell? ⟨w.heap.size, 2, none⟩ = some (.bool x.same) ∧ W.cell? ⟨w.heap.size, 3, none⟩ = some (.int .i64 x.time) from fun W y => HBX.out _ ((hx.trans x4).trans y))
                  obtain ⟨wq, hwq⟩ : ∃ wq, wq = w4 := ⟨_, rfl⟩
                  have xq : Ext w wq := by rw [hwq]; exact xb.trans ((hx.trans x4))
                  rw [← hwq] at HBQ ⊢
                  clear hwq
                  have HE1 := hid (show (wq.alloc (.cells #[] 26)).heap[wq.heap.size]? = some (.cells #[] 26 (0, 0)) from heap_alloc_new wq _)
                  have HE2 := hid (show ((wq.alloc (.cells #[] 26)).alloc (.cells #[.int .i64 x.a, .int .i64 x.b, .bool x.same, .int .i64 x.time] 26)).heap[wq.heap.size]? = some (.cells #[] 26 (0, 0)) from (((Ext.refl (wq.alloc (.cells #[] 26))).alloc _).block (by simp)).trans (heap_alloc_new wq _))
                  have HV2 := hid (show ((wq.alloc (.cells #[] 26)).alloc (.cells #[.int .i64 x.a, .int .i64 x.b, .bool x.same, .int .i64 x.time] 26)).heap[wq.heap.size + 1]? = some (.cells #[.int .i64 x.a, .int .i64 x.b, .bool x.same, .int .i64 x.time] 26 (0, 0)) from by have := heap_alloc_new (wq.alloc (.cells #[] 26)) (.cells #[.int .i64 x.a, .int .i64 x.b, .bool x.same, .int .i64 x.time] 26); rwa [World.size_alloc] at this)
                  have HE3 := hid (show ((wq.alloc (.cells #[.int .i64 x.a, .int .i64 x.b, .bool x.same, .int .i64 x.time] 26)).alloc (.cells #[] 26)).heap[wq.heap.size + 1]? = some (.cells #[] 26 (0, 0)) from by have := heap_alloc_new (wq.alloc (.cells #[.int .i64 x.a, .int .i64 x.b, .bool x.same, .int .i64 x.time] 26)) (.cells #[] 26); rwa [World.size_alloc] at this)
                  have HV3 := hid (show ((wq.alloc (.cells #[.int .i64 x.a, .int .i64 x.b, .bool x.same, .int .i64 x.time] 26)).alloc (.cells #[] 26)).heap[wq.heap.size]? = some (.cells #[.int .i64 x.a, .int .i64 x.b, .bool x.same, .int .i64 x.time] 26 (0, 0)) from (((Ext.refl (wq.alloc (.cells #[.int .i64 x.a, .int .i64 x.b, .bool x.same, .int .i64 x.time] 26))).alloc _).block (by simp)).trans (heap_alloc_new wq _))
                  go_region_held3 (fun w' => w'.cell? ⟨w.heap.size, 0, none⟩ = some (.int .i64 x.a) ∧ w'.cell? ⟨w.heap.size, 1, none⟩ = some (.int .i64 x.b) ∧ w'.cell? ⟨w.heap.size, 2, none⟩ = some (.bool x.same) ∧ w'.cell? ⟨w.heap.size, 3, none⟩ = some (.int .i64 x.time)) (exact HBQ.out _ (by repeat (first | with_reducible exact Ext.refl _ | with_reducible assumption | with_reducible refine Ext.drew ?_ | with_reducible refine Ext.alloc ?_ _ | with_reducible refine Ext.trans ?_ (by with_reducible assumption)))) (first | (have hsecond := hB2; refine step_appv elemVer (by decide) rfl _ _ rfl hB2 rfl rfl (HTD.out _ _ _ (by first | decide | (have := HCAP.out; omega))) HL3.out xs2.size (w0 := wq) (Nat.le_refl _) xs2 ?_; intro v6 w6 hB3 xs3 _) | (refine step_app1 (R := verdictO) elemVer (by decide) rfl _ _ rfl (hB1.ext ((Ext.refl w4).alloc (.cells #[.int .i64 x.a, .int .i64 x.b, .bool x.same, .int .i64 x.time] 26))) rfl w4.heap.size 1 rfl (heap_alloc_new w4 _) (one_ver _ _ _ _) (y := x) ⟨⟨rfl, HOKX.out⟩, rfl⟩ fresh_nil HL2.out (by decide) (by rw [World.size_alloc]; have := xs1.size; omega) (w0 := wq) (Nat.le_refl _) (by repeat (first | with_reducible exact Ext.refl _ | with_reducible assumption | with_reducible refine Ext.drew ?_ | with_reducible refine Ext.alloc ?_ _ | with_reducible refine Ext.trans ?_ (by with_reducible assumption))) ?_; intro v5 w5 hB2 xs2) | (refine step_app1 (R := verdictO) elemVer (by decide) rfl _ _ rfl (hB1) rfl (wq.heap.size + 1) 1 rfl ((hk1 _ (by simp <;> omega) (by simp [Value.ownBlock])).trans HV2.out) (one_ver _ _ _ _) (y := x) ⟨⟨rfl, HOKX.out⟩, rfl⟩ fresh_nil HL2.out (by decide) xs1.size (w0 := wq) (Nat.le_refl _) (by repeat (first | with_reducible exact Ext.refl _ | with_reducible assumption | with_reducible refine Ext.drew ?_ | with_reducible refine Ext.alloc ?_ _ | with_reducible refine Ext.trans ?_ (by with_reducible assumption))) ?_; intro v5 w5 hB2 xs2) | (refine step_app1 (R := verdictO) elemVer (by decide) rfl _ _ rfl (hB1) rfl wq.heap.size 1 rfl ((hk1 _ (by simp <;> omega) (by simp [Value.ownBlock])).trans HV3.out) (one_ver _ _ _ _) (y := x) ⟨⟨rfl, HOKX.out⟩, rfl⟩ fresh_nil HL2.out (by decide) xs1.size (w0 := wq) (Nat.le_refl _) (by repeat (first | with_reducible exact Ext.refl _ | with_reducible assumption | with_reducible refine Ext.drew ?_ | with_reducible refine Ext.alloc ?_ _ | with_reducible refine Ext.trans ?_ (by with_reducible assumption))) ?_; intro v5 w5 hB2 xs2) | (refine step_appv elemVer (by decide) rfl _ _ rfl (Bld.empv (R := verdictO) (base := wq.heap.size) (Nat.le_refl _) HE1.out) rfl rfl (HTK.out _ (by repeat (first | with_reducible exact Ext.refl _ | with_reducible assumption | with_reducible refine Ext.drew ?_ | with_reducible refine Ext.alloc ?_ _ | with_reducible refine Ext.trans ?_ (by with_reducible assumption)))) HL1.out (by simp <;> omega) (w0 := wq) (Nat.le_refl _) (by repeat (first | with_reducible exact Ext.refl _ | with_reducible assumption | with_reducible refine Ext.drew ?_ | with_reducible refine Ext.alloc ?_ _ | with_reducible refine Ext.trans ?_ (by with_reducible assumption))) ?_; intro v4 w4 hB1 xs1 hk1; rw [List.nil_append] at hB1) | (refine step_appv elemVer (by decide) rfl _ _ rfl (Bld.empv (R := verdictO) (base := wq.heap.size) (Nat.le_refl _) HE2.out) rfl rfl (HTK.out _ (by repeat (first | with_reducible exact Ext.refl _ | with_reducible assumption | with_reducible refine Ext.drew ?_ | with_reducible refine Ext.alloc ?_ _ | with_reducible refine Ext.trans ?_ (by with_reducible assumption)))) HL1.out (by simp <;> omega) (w0 := wq) (Nat.le_refl _) (by repeat (first | with_reducible exact Ext.refl _ | with_reducible assumption | with_reducible refine Ext.drew ?_ | with_reducible refine Ext.alloc ?_ _ | with_reducible refine Ext.trans ?_ (by with_reducible assumption))) ?_; intro v4 w4 hB1 xs1 hk1; rw [List.nil_append] at hB1) | (refine step_appv elemVer (by decide) rfl _ _ rfl (Bld.empv (R := verdictO) (base := wq.heap.size) (Nat.le_succ _) HE3.out) rfl rfl (HTK.out _ (by repeat (first | with_reducible exact Ext.refl _ | with_reducible assumption | with_reducible refine Ext.drew ?_ | with_reducible refine Ext.alloc ?_ _ | with_reducible refine Ext.trans ?_ (by with_reducible assumption)))) HL1.out (by simp <;> omega) (w0 := wq) (Nat.le_refl _) (by repeat (first | with_reducible exact Ext.refl _ | with_reducible assumption | with_reducible refine Ext.drew ?_ | with_reducible refine Ext.alloc ?_ _ | with_reducible refine Ext.trans ?_ (by with_reducible assumption))) ?_; intro v4 w4 hB1 xs1 hk1; rw [List.nil_append] at hB1))
                  all_goals
                    have d1 := hB3.done.choose_spec.1
                    obtain ⟨A6, c6, e6, _⟩ := d1.form
                    rw [show (xs.take xs.length ++ [x] ++ ([] : List Verdict)).length = xs.length + 1 by simp only [List.length_append, List.length_take, List.length_drop, List.length_cons, List.length_nil]; omega] at e6
                    subst e6
                    go_wp2
                    refine bodyPost_ret (v := .tuple #[.slice A6 (xs.length + 1) c6, .bool true]) (by simp [results, Tryd.results7, go_sem]) rfl ?_
                    exact ⟨_, by rw [HR.out], by rw [HR.out]; show Bld verdictO _ _ _ _ (putV xs x) []; unfold putV; rw [← HKC.out, List.drop_length]; simpa using hB3.lowv xq.size, xq.trans xs3⟩
      · rw [hj]
        have HAD := hid (addV_no (xs := xs) (x := x) (fun k => by rw [hj] at k; exact absurd k.2.2.1 (by omega)))
        have hj0 : (0 : Int) ≤ (j : Int) := by omega
        clear hj hjl hxj
        go_wp2_with fail
        refine (spec_l28CopyB _ xs _ (h.mono (xb.trans x13)) hl).mono ?_
        rintro e w9 ⟨v9, rfl, B9, x9⟩
        go_wp2
        refine bodyPost_ret (v := .tuple #[v9, .bool false]) (by simp [results, Tryd.results7, go_sem]) rfl ?_
        exact ⟨_, by rw [HAD.out], by rw [HAD.out]; exact B9.lowv (xb.trans x13).size, (xb.trans x13).trans x9⟩
theorem spec_AddVerdict (v : Value) (xs : List Verdict) (x : Verdict) (w : World) (h : Sl verdictR w v xs) (hl : xs.length ≤ 1048576) :
    Calls Tryd.prog 7 #[v, .agg #[.int .i64 x.a, .int .i64 x.b, .bool x.same, .int .i64 x.time]] w (VsOut w · · (addV xs x)) :=
  (spec_AddVerdictB v xs x w h hl).mono fun e w2 ⟨v2, e1, hB, hx⟩ => by
    obtain ⟨F, d1, d2, d3⟩ := hB.done
    exact ⟨v2, F, e1, d1, ⟨d2, d3⟩, hx⟩
end Go.Proofs.YtblggajfdhjmjaaDoor

namespace Go.Proofs.YtblggajfdhjmjaaDoor
open Go.RowKit

theorem addV_len (xs : List Verdict) (x : Verdict) : (addV xs x).1.length ≤ xs.length + 1 := by
  unfold addV
  split
  · exact Nat.le_of_eq (putV_len xs x)
  · exact Nat.le_succ _
/-- a list of verdicts that was drawn -/
def LstDrawn (w0 w : World) (g m : Nat) (e : Ending) (w2 : World) : Prop := ∃ v2 xs, e = .returned v2 ∧ Bld verdictO w2 w.heap.size 26 v2 xs [] ∧ xs.length ≤ m ∧ Cur w0 w2 g ∧ Kept g w w2

set_option maxHeartbeats 1000000 in
set_option maxRecDepth 20000 in
theorem spec_l28List (w0 w : World) (g : Nat) (hc : Cur w0 w g) :
    Calls Tryd.prog 37 #[.pointer (some ⟨g, 0, none⟩)] w (LstDrawn w0 w g 6) := by
  have hg := hc.base.2.2
  have hB0 : Bld verdictO (w.alloc (.cells #[] 26)) w.heap.size 26 (.slice (some ⟨w.heap.size, 0, none⟩) 0 0) [] [] := Bld.lit w (Nat.le_refl _) _
  have hc0 := hc.ext ((Ext.refl w).alloc (.cells #[] 26))
  go_enter Tryd.func37, Tryd.ntmps37
  go_wp2_with fail
  refine (spec_l1Below w0 _ g 7 (by decide) hc0).mono ?_
  rintro e w2 ⟨x, rfl, hx, hc2, hk2⟩
  have hg2 := hc2.base.2.2
  obtain ⟨n0, rfl⟩ : ∃ n : Nat, x = n := ⟨x.toNat, by omega⟩
  have hB2 := hB0.kept (by omega) hk2
  have k2 := (Ext.kept (g := g) ((Ext.refl w).alloc (.cells #[] 26))).trans hk2
  clear hc hc0 hB0 hk2
  go_wp2
  go_loopw [3, 4] (fun l i wr => ∃ (xs : List Verdict) (n : Nat), i = .int .i64 n ∧ xs.length + n ≤ 6 ∧ Bld verdictO wr w.heap.size 26 l xs [] ∧ Cur w0 wr g ∧ Kept g w wr) (fun _ i _ => (intOf i).toNat)
  case atStart => exact ⟨[], n0, rfl, by simp; omega, hB2, hc2, k2⟩
  case round =>
    clear hB2 hc2 k2 hg2 hx
    obtain ⟨xs, n, rfl, hn, hB, hc, hk⟩ := hrel
    by_cases hn0 : 0 < n
    · go_wp2_with fail
      refine (spec_l28Verdict w0 _ g hc).mono ?_
      rintro e w3 ⟨v, rfl, vok, hc3, hk3⟩
      have hB3 := hB.kept (by omega) hk3
      go_wp2_with fail
      refine (spec_AddVerdictB _ xs v _ hB3.sl (by omega)).mono ?_
      rintro e w4 ⟨v4, rfl, hB4, x4⟩
      have hal := addV_len xs v
      have hs := (hk.trans hk3).1
      go_wp2
      go_roundw
      case rel => exact ⟨(addV xs v).1, n - 1, (by (have e9 : ((n - 1 : Nat) : Int) = (n : Int) - 1 := by omega); rw [e9]), by omega, hB4.lowv hs, hc3.ext x4, (hk.trans hk3).trans x4.kept⟩
      case measure => simp [intOf]; omega
    · obtain rfl : n = 0 := by omega
      go_wp2
      go_ret
      exact ⟨_, xs, rfl, hB, by omega, hc, hk⟩

set_option maxHeartbeats 1000000 in
set_option maxRecDepth 20000 in
theorem spec_l28Lists (w0 w : World) (g : Nat) (hc : Cur w0 w g) :
    Calls Tryd.prog 18 #[.pointer (some ⟨g, 0, none⟩)] w (LstDrawn w0 w g 7) := by
  have hg := hc.base.2.2
  have h0g := hc.base.2.1
  go_enter Tryd.func18, Tryd.ntmps18
  go_wp2_with fail
  refine (spec_l28List w0 _ g hc).mono ?_
  rintro e w2 ⟨v2, xs, rfl, hB2, hl, hc2, hk2⟩
  obtain ⟨F9, od, _, _⟩ := hB2.done
  obtain ⟨A, c, e, _⟩ := od.form
  subst e
  clear od
  go_wp2_with fail
  refine (spec_l1Once w0 _ g 14 (by decide) hc2).mono ?_
  rintro e w3 ⟨x, rfl, hc3, hk3⟩
  have hB3 := hB2.kept (by omega) hk3
  have hk03 := hk2.trans hk3
  clear hB2 hc2 hk2 hk3
  cases x with
  | false =>
    go_wp2
    go_ret
    exact ⟨_, xs, rfl, hB3, by omega, hc3, hk03⟩
  | true =>
    go_wp2_with fail
    refine (spec_l28Any w0 _ g hc3).mono ?_
    rintro e w4 ⟨v, rfl, vok, hc4, hk4⟩
    have hB4 := hB3.kept (by omega) hk4
    have hk04 := hk03.trans hk4
    have hs := hk04.1
    go_wp2_with (at_builtin; refine wpList_app1g (R := verdictO) elemVer (by decide) rfl _ _ rfl hB4 rfl w4.heap.size 1 rfl rfl (one_ver _ _ _ _) (y := v) ⟨⟨rfl, vok⟩, rfl⟩ fresh_nil (by omega) (by decide) hs ?_; intro v9 w9 hB9 hE9 hs9 hk9)
    go_ret
    exact ⟨_, xs ++ [v], rfl, hB9, by simp; omega, hc4.keep (hE9 w0 (by omega) hc4.base.1) (hk9 g (by omega)), ⟨by omega, fun b hb hne => (hk9 b (by omega)).trans (hk04.2 b hb hne)⟩⟩

set_option maxHeartbeats 1000000 in
set_option maxRecDepth 20000 in
theorem spec_l28Some (w0 w : World) (g : Nat) (v : Value) (xs : List Verdict) (hl : xs.length ≤ 8) (hc : Cur w0 w g) (hs : ∀ w2, Kept g w w2 → Sl verdictR w2 v xs) :
    Calls Tryd.prog 19 #[.pointer (some ⟨g, 0, none⟩), v] w (VerDrawn w0 w g) := by
  have hg := hc.base.2.2
  have hs0 := hs w (Kept.refl _ _)
  obtain ⟨A, cap, rfl, hm⟩ := hs0.form
  have xa : Ext w (w.alloc (.cells #[.int .i64 0, .int .i64 0, .bool false, .int .i64 0] 26)) := (Ext.refl w).alloc _
  have hc0 := hc.ext xa
  have k0 := xa.kept (g := g)
  have b0 : Blk (w.alloc (.cells #[.int .i64 0, .int .i64 0, .bool false, .int .i64 0] 26)) w.heap.size 26 [.int .i64 0, .int .i64 0, .bool false, .int .i64 0] := Blk.new w 26 #[.int .i64 0, .int .i64 0, .bool false, .int .i64 0]
  have hany : ∀ w3, Cur w0 w3 g → Kept g w w3 → Blk w3 w.heap.size 26 [.int .i64 0, .int .i64 0, .bool false, .int .i64 0] → True := fun _ _ _ _ => trivial
  by_cases h0 : 0 < xs.length
  · have h0' : (0 : Int) < (xs.length : Int) := by omega
    go_enter Tryd.func19, Tryd.ntmps19
    go_wp2_with fail
    refine (spec_l1Once w0 _ g 2 (by decide) hc0).mono ?_
    rintro e w3 ⟨x, rfl, hc3, hk3⟩
    have hg3 := hc3.base.2.2
    have b3 := b0.kept (Nat.ne_of_gt hg) hk3
    have hk03 := k0.trans hk3
    clear hc0 b0 hk3
    cases x with
    | true =>
      go_wp2_with fail
      refine (spec_l1Below w0 _ g xs.length (by omega) hc3).mono ?_
      rintro e w4 ⟨q, rfl, hq, hc4, hk4⟩
      obtain ⟨j, rfl⟩ : ∃ j : Nat, q = j := ⟨q.toNat, by omega⟩
      have hj : j < xs.length := by omega
      have hk04 := hk03.trans hk4
      have b4 := b3.kept (Nat.ne_of_gt hg) hk4
      obtain ⟨b, off, rfl, hok, hc0', hc1, hc2, hc3'⟩ := (hs w4 hk04).verdict hj
      obtain ⟨y, hy⟩ : ∃ y, y = xs[j] := ⟨_, rfl⟩
      rw [← hy] at hok hc0' hc1 hc2 hc3'
      have HOK := hid hok
      clear hy hok hk4 hk03 b3 hc3 hs0
      obtain ⟨cR, fR⟩ := b4.cells
      go_wp2
      have b9 : Blk ((((w4.setCell ⟨w.heap.size, 0, none⟩ (.int .i64 y.a)).setCell ⟨w.heap.size, 1, none⟩ (.int .i64 y.b)).setCell ⟨w.heap.size, 2, none⟩ (.bool y.same)).setCell ⟨w.heap.size, 3, none⟩ (.int .i64 y.time)) w.heap.size 26 [.int .i64 y.a, .int .i64 y.b, .bool y.same, .int .i64 y.time] := ((((b4.setAt 0 (by show 0 < 4; decide) (.int .i64 y.a)).setAt 1 (by show 1 < 4; decide) (.int .i64 y.b)).setAt 2 (by show 2 < 4; decide) (.bool y.same)).setAt 3 (by show 3 < 4; decide) (.int .i64 y.time))
      have r0 : ((((w4.setCell ⟨w.heap.size, 0, none⟩ (.int .i64 y.a)).setCell ⟨w.heap.size, 1, none⟩ (.int .i64 y.b)).setCell ⟨w.heap.size, 2, none⟩ (.bool y.same)).setCell ⟨w.heap.size, 3, none⟩ (.int .i64 y.time)).cell? ⟨w.heap.size, 0, none⟩ = some (.int .i64 y.a) := b9.cells.1 0
      have r1 : ((((w4.setCell ⟨w.heap.size, 0, none⟩ (.int .i64 y.a)).setCell ⟨w.heap.size, 1, none⟩ (.int .i64 y.b)).setCell ⟨w.heap.size, 2, none⟩ (.bool y.same)).setCell ⟨w.heap.size, 3, none⟩ (.int .i64 y.time)).cell? ⟨w.heap.size, 1, none⟩ = some (.int .i64 y.b) := b9.cells.1 1
      have r2 : ((((w4.setCell ⟨w.heap.size, 0, none⟩ (.int .i64 y.a)).setCell ⟨w.heap.size, 1, none⟩ (.int .i64 y.b)).setCell ⟨w.heap.size, 2, none⟩ (.bool y.same)).setCell ⟨w.heap.size, 3, none⟩ (.int .i64 y.time)).cell? ⟨w.heap.size, 2, none⟩ = some (.bool y.same) := b9.cells.1 2
      have r3 : ((((w4.setCell ⟨w.heap.size, 0, none⟩ (.int .i64 y.a)).setCell ⟨w.heap.size, 1, none⟩ (.int .i64 y.b)).setCell ⟨w.heap.size, 2, none⟩ (.bool y.same)).setCell ⟨w.heap.size, 3, none⟩ (.int .i64 y.time)).cell? ⟨w.heap.size, 3, none⟩ = some (.int .i64 y.time) := b9.cells.1 3
      have k9 : Kept g w ((((w4.setCell ⟨w.heap.size, 0, none⟩ (.int .i64 y.a)).setCell ⟨w.heap.size, 1, none⟩ (.int .i64 y.b)).setCell ⟨w.heap.size, 2, none⟩ (.bool y.same)).setCell ⟨w.heap.size, 3, none⟩ (.int .i64 y.time)) := ((((hk04.setN (Nat.le_refl _) _).setN (Nat.le_refl _) _).setN (Nat.le_refl _) _).setN (Nat.le_refl _) _)
      have c9 : Cur w0 ((((w4.setCell ⟨w.heap.size, 0, none⟩ (.int .i64 y.a)).setCell ⟨w.heap.size, 1, none⟩ (.int .i64 y.b)).setCell ⟨w.heap.size, 2, none⟩ (.bool y.same)).setCell ⟨w.heap.size, 3, none⟩ (.int .i64 y.time)) g := ((((hc4.setN hg _).setN hg _).setN hg _).setN hg _)
      refine bodyPost_ret (v := .agg #[.int .i64 y.a, .int .i64 y.b, .bool y.same, .int .i64 y.time]) (by simp [results, Tryd.results19, go_sem, r0, r1, r2, r3]) rfl ?_
      exact ⟨y, rfl, HOK.out, c9, k9⟩
    | false =>
      go_wp2_with fail
      refine (spec_l28Any w0 _ g hc3).mono ?_
      rintro e w4 ⟨y, rfl, hok, hc4, hk4⟩
      have hk04 := hk03.trans hk4
      have b4 := b3.kept (Nat.ne_of_gt hg) hk4
      have HOK := hid hok
      clear hok hk4 hk03 b3 hc3 hs0
      obtain ⟨cR, fR⟩ := b4.cells
      go_wp2
      have b9 : Blk ((((w4.setCell ⟨w.heap.size, 0, none⟩ (.int .i64 y.a)).setCell ⟨w.heap.size, 1, none⟩ (.int .i64 y.b)).setCell ⟨w.heap.size, 2, none⟩ (.bool y.same)).setCell ⟨w.heap.size, 3, none⟩ (.int .i64 y.time)) w.heap.size 26 [.int .i64 y.a, .int .i64 y.b, .bool y.same, .int .i64 y.time] := ((((b4.setAt 0 (by show 0 < 4; decide) (.int .i64 y.a)).setAt 1 (by show 1 < 4; decide) (.int .i64 y.b)).setAt 2 (by show 2 < 4; decide) (.bool y.same)).setAt 3 (by show 3 < 4; decide) (.int .i64 y.time))
      have r0 : ((((w4.setCell ⟨w.heap.size, 0, none⟩ (.int .i64 y.a)).setCell ⟨w.heap.size, 1, none⟩ (.int .i64 y.b)).setCell ⟨w.heap.size, 2, none⟩ (.bool y.same)).setCell ⟨w.heap.size, 3, none⟩ (.int .i64 y.time)).cell? ⟨w.heap.size, 0, none⟩ = some (.int .i64 y.a) := b9.cells.1 0
      have r1 : ((((w4.setCell ⟨w.heap.size, 0, none⟩ (.int .i64 y.a)).setCell ⟨w.heap.size, 1, none⟩ (.int .i64 y.b)).setCell ⟨w.heap.size, 2, none⟩ (.bool y.same)).setCell ⟨w.heap.size, 3, none⟩ (.int .i64 y.time)).cell? ⟨w.heap.size, 1, none⟩ = some (.int .i64 y.b) := b9.cells.1 1
      have r2 : ((((w4.setCell ⟨w.heap.size, 0, none⟩ (.int .i64 y.a)).setCell ⟨w.heap.size, 1, none⟩ (.int .i64 y.b)).setCell ⟨w.heap.size, 2, none⟩ (.bool y.same)).setCell ⟨w.heap.size, 3, none⟩ (.int .i64 y.time)).cell? ⟨w.heap.size, 2, none⟩ = some (.bool y.same) := b9.cells.1 2
      have r3 : ((((w4.setCell ⟨w.heap.size, 0, none⟩ (.int .i64 y.a)).setCell ⟨w.heap.size, 1, none⟩ (.int .i64 y.b)).setCell ⟨w.heap.size, 2, none⟩ (.bool y.same)).setCell ⟨w.heap.size, 3, none⟩ (.int .i64 y.time)).cell? ⟨w.heap.size, 3, none⟩ = some (.int .i64 y.time) := b9.cells.1 3
      have k9 : Kept g w ((((w4.setCell ⟨w.heap.size, 0, none⟩ (.int .i64 y.a)).setCell ⟨w.heap.size, 1, none⟩ (.int .i64 y.b)).setCell ⟨w.heap.size, 2, none⟩ (.bool y.same)).setCell ⟨w.heap.size, 3, none⟩ (.int .i64 y.time)) := ((((hk04.setN (Nat.le_refl _) _).setN (Nat.le_refl _) _).setN (Nat.le_refl _) _).setN (Nat.le_refl _) _)
      have c9 : Cur w0 ((((w4.setCell ⟨w.heap.size, 0, none⟩ (.int .i64 y.a)).setCell ⟨w.heap.size, 1, none⟩ (.int .i64 y.b)).setCell ⟨w.heap.size, 2, none⟩ (.bool y.same)).setCell ⟨w.heap.size, 3, none⟩ (.int .i64 y.time)) g := ((((hc4.setN hg _).setN hg _).setN hg _).setN hg _)
      refine bodyPost_ret (v := .agg #[.int .i64 y.a, .int .i64 y.b, .bool y.same, .int .i64 y.time]) (by simp [results, Tryd.results19, go_sem, r0, r1, r2, r3]) rfl ?_
      exact ⟨y, rfl, HOK.out, c9, k9⟩
  · have h0' : ¬ (0 : Int) < (xs.length : Int) := by omega
    have HX := hid h0
    clear h0
    go_enter Tryd.func19, Tryd.ntmps19
    go_wp2_with fail
    refine (spec_l28Any w0 _ g hc0).mono ?_
    rintro e w4 ⟨y, rfl, hok, hc4, hk4⟩
    have hk04 := k0.trans hk4
    have b4 := b0.kept (Nat.ne_of_gt hg) hk4
    have HOK := hid hok
    clear hok hk4 k0 b0 hc0 hs0
    obtain ⟨cR, fR⟩ := b4.cells
    go_wp2
    have b9 : Blk ((((w4.setCell ⟨w.heap.size, 0, none⟩ (.int .i64 y.a)).setCell ⟨w.heap.size, 1, none⟩ (.int .i64 y.b)).setCell ⟨w.heap.size, 2, none⟩ (.bool y.same)).setCell ⟨w.heap.size, 3, none⟩ (.int .i64 y.time)) w.heap.size 26 [.int .i64 y.a, .int .i64 y.b, .bool y.same, .int .i64 y.time] := ((((b4.setAt 0 (by show 0 < 4; decide) (.int .i64 y.a)).setAt 1 (by show 1 < 4; decide) (.int .i64 y.b)).setAt 2 (by show 2 < 4; decide) (.bool y.same)).setAt 3 (by show 3 < 4; decide) (.int .i64 y.time))
    have r0 : ((((w4.setCell ⟨w.heap.size, 0, none⟩ (.int .i64 y.a)).setCell ⟨w.heap.size, 1, none⟩ (.int .i64 y.b)).setCell ⟨w.heap.size, 2, none⟩ (.bool y.same)).setCell ⟨w.heap.size, 3, none⟩ (.int .i64 y.time)).cell? ⟨w.heap.size, 0, none⟩ = some (.int .i64 y.a) := b9.cells.1 0
    have r1 : ((((w4.setCell ⟨w.heap.size, 0, none⟩ (.int .i64 y.a)).setCell ⟨w.heap.size, 1, none⟩ (.int .i64 y.b)).setCell ⟨w.heap.size, 2, none⟩ (.bool y.same)).setCell ⟨w.heap.size, 3, none⟩ (.int .i64 y.time)).cell? ⟨w.heap.size, 1, none⟩ = some (.int .i64 y.b) := b9.cells.1 1
    have r2 : ((((w4.setCell ⟨w.heap.size, 0, none⟩ (.int .i64 y.a)).setCell ⟨w.heap.size, 1, none⟩ (.int .i64 y.b)).setCell ⟨w.heap.size, 2, none⟩ (.bool y.same)).setCell ⟨w.heap.size, 3, none⟩ (.int .i64 y.time)).cell? ⟨w.heap.size, 2, none⟩ = some (.bool y.same) := b9.cells.1 2
    have r3 : ((((w4.setCell ⟨w.heap.size, 0, none⟩ (.int .i64 y.a)).setCell ⟨w.heap.size, 1, none⟩ (.int .i64 y.b)).setCell ⟨w.heap.size, 2, none⟩ (.bool y.same)).setCell ⟨w.heap.size, 3, none⟩ (.int .i64 y.time)).cell? ⟨w.heap.size, 3, none⟩ = some (.int .i64 y.time) := b9.cells.1 3
    have k9 : Kept g w ((((w4.setCell ⟨w.heap.size, 0, none⟩ (.int .i64 y.a)).setCell ⟨w.heap.size, 1, none⟩ (.int .i64 y.b)).setCell ⟨w.heap.size, 2, none⟩ (.bool y.same)).setCell ⟨w.heap.size, 3, none⟩ (.int .i64 y.time)) := ((((hk04.setN (Nat.le_refl _) _).setN (Nat.le_refl _) _).setN (Nat.le_refl _) _).setN (Nat.le_refl _) _)
    have c9 : Cur w0 ((((w4.setCell ⟨w.heap.size, 0, none⟩ (.int .i64 y.a)).setCell ⟨w.heap.size, 1, none⟩ (.int .i64 y.b)).setCell ⟨w.heap.size, 2, none⟩ (.bool y.same)).setCell ⟨w.heap.size, 3, none⟩ (.int .i64 y.time)) g := ((((hc4.setN hg _).setN hg _).setN hg _).setN hg _)
    refine bodyPost_ret (v := .agg #[.int .i64 y.a, .int .i64 y.b, .bool y.same, .int .i64 y.time]) (by simp [results, Tryd.results19, go_sem, r0, r1, r2, r3]) rfl ?_
    exact ⟨y, rfl, HOK.out, c9, k9⟩
end Go.Proofs.YtblggajfdhjmjaaDoor

namespace Go.Proofs.YtblggajfdhjmjaaDoor
open Go.RowKit

theorem asc_put {xs : List Verdict} {v : Verdict} (h : Asc xs) (hv : v ∉ xs) : Asc (putV xs v) := by
  have hp := asc_pw.1 h
  rw [asc_pw]
  unfold putV
  have hlo : ∀ a ∈ xs.take (cntV xs v), vlt a v := fun a ha => by
    obtain ⟨k, hk, rfl⟩ := List.getElem_of_mem ha
    rw [List.length_take] at hk
    rw [List.getElem_take]
    exact cmpV_lt.1 (cntV_lt (by omega) (by omega))
  have hhi : ∀ b ∈ xs.drop (cntV xs v), vlt v b := fun b hb => by
    obtain ⟨k, hk, rfl⟩ := List.getElem_of_mem hb
    rw [List.length_drop] at hk
    rw [List.getElem_drop]
    have hk2 : cntV xs v + k < xs.length := by omega
    have h1 : ¬ vlt xs[cntV xs v + k] v := fun e => by
      have := (asc_side h hk2).1 (cmpV_lt.2 e); omega
    rcases vlt_tri xs[cntV xs v + k] v with e | e | e
    · exact absurd e h1
    · exact absurd (e ▸ List.getElem_mem hk2) hv
    · exact e
  rw [List.pairwise_append]
  refine ⟨hp.sublist (List.take_sublist _ _), List.pairwise_cons.2 ⟨hhi, hp.sublist (List.drop_sublist _ _)⟩, fun a ha b hb => ?_⟩
  rcases List.mem_cons.1 hb with rfl | hb
  · exact hlo a ha
  · exact vlt_trans (hlo a ha) (hhi b hb)
theorem mem_put {xs : List Verdict} {v x : Verdict} : x ∈ putV xs v ↔ x = v ∨ x ∈ xs := by
  unfold putV
  rw [List.mem_append, List.mem_cons]
  constructor
  · rintro (h | h | h)
    · exact .inr (List.mem_of_mem_take h)
    · exact .inl h
    · exact .inr (List.mem_of_mem_drop h)
  · rintro (h | h)
    · exact .inr (.inl h)
    · rw [← List.take_append_drop (cntV xs v) xs, List.mem_append] at h
      rcases h with h | h
      · exact .inl h
      · exact .inr (.inr h)
/-- what was added can be removed, and stands in good order -/
theorem add_back {xs : List Verdict} {x : Verdict} (h : (addV xs x).2 = true) : areVers (addV xs x).1 = true ∧ (rmV (addV xs x).1 x).2 = true ∧ (rmV (addV xs x).1 x).1.length = xs.length ∧ (addV xs x).1.length ≤ 8 := by
  by_cases hc : areVers xs = true ∧ okV x = true ∧ idxV xs x = -1 ∧ ¬ xs.length = 8
  · rw [addV_yes hc]
    obtain ⟨h1, h2, h3, h4⟩ := hc
    obtain ⟨a1, a2, a3⟩ := areVers_asc h1
    have hn : x ∉ xs := by
      rcases idxV_cases xs x with ⟨_, e⟩ | ⟨j, _, e, _⟩
      · exact e
      · rw [e] at h3; omega
    have hl := putV_len xs x
    have hA : areVers (putV xs x) = true := asc_areVers (asc_put a1 hn) (fun y hy => by
      rcases mem_put.1 hy with rfl | hy
      · exact h2
      · exact a2 y hy) (by omega)
    refine ⟨hA, ?_⟩
    rcases idxV_cases (putV xs x) x with ⟨_, e⟩ | ⟨j, hj, e, _⟩
    · exact absurd (mem_put.2 (.inl rfl)) e
    · rw [rmV_yes hA e]
      refine ⟨rfl, ?_, by show (putV xs x).length ≤ 8; omega⟩
      show ((putV xs x).eraseIdx j).length = xs.length
      rw [List.length_eraseIdx, if_pos hj]; omega
  · rw [addV_no hc] at h; cases h

def plt (x y : Verdict) : Prop := x.a < y.a ∨ x.a = y.a ∧ x.b < y.b
structure CurInv (out done : List Verdict) : Prop where
  pw : out.Pairwise plt
  cov : ∀ x ∈ done, ∃ c ∈ out, c.a = x.a ∧ c.b = x.b ∧ x.time ≤ c.time
  sub : ∀ c ∈ out, c ∈ done
theorem CurInv.step {out done : List Verdict} (h : CurInv out done) {v : Verdict} (hv : ∀ x ∈ done, vlt x v) : CurInv (curStep out v) (done ++ [v]) := by
  rcases List.eq_nil_or_concat out with rfl | ⟨xs, l, rfl⟩
  · rw [curStep_nil]
    refine ⟨List.pairwise_singleton _ _, fun x hx => ?_, fun c hc => List.mem_append_right _ hc⟩
    rcases List.mem_append.1 hx with hx | hx
    · obtain ⟨c, hc, _⟩ := h.cov x hx; cases hc
    · rw [List.mem_singleton] at hx; subst hx; exact ⟨x, by simp, rfl, rfl, Int.le_refl _⟩
  · rw [List.concat_eq_append] at h ⊢
    have hl := hv l (h.sub l (by simp))
    have hpw := List.pairwise_append.1 h.pw
    by_cases hs : l.a = v.a ∧ l.b = v.b
    · by_cases ht : l.time < v.time
      · rw [curStep_set hs.1 hs.2 ht]
        refine ⟨List.pairwise_append.2 ⟨hpw.1, List.pairwise_singleton _ _, fun a ha b hb => ?_⟩, fun x hx => ?_, fun c hc => ?_⟩
        · rw [List.mem_singleton] at hb; subst hb
          have := hpw.2.2 a ha l (by simp)
          unfold plt at this ⊢
          rw [← hs.1, ← hs.2]; exact this
        · rcases List.mem_append.1 hx with hx | hx
          · obtain ⟨c, hc, e1, e2, e3⟩ := h.cov x hx
            rcases List.mem_append.1 hc with hc | hc
            · exact ⟨c, List.mem_append_left _ hc, e1, e2, e3⟩
            · rw [List.mem_singleton] at hc; subst hc
              exact ⟨v, by simp, by rw [← hs.1]; exact e1, by rw [← hs.2]; exact e2, by omega⟩
          · rw [List.mem_singleton] at hx; subst hx; exact ⟨x, by simp, rfl, rfl, Int.le_refl _⟩
        · rcases List.mem_append.1 hc with hc | hc
          · exact List.mem_append_left _ (h.sub c (List.mem_append_left _ hc))
          · exact List.mem_append_right _ hc
      · rw [curStep_old hs.1 hs.2 ht]
        refine ⟨h.pw, fun x hx => ?_, fun c hc => List.mem_append_left _ (h.sub c hc)⟩
        rcases List.mem_append.1 hx with hx | hx
        · exact h.cov x hx
        · rw [List.mem_singleton] at hx; subst hx; exact ⟨l, by simp, hs.1, hs.2, by omega⟩
    · rw [curStep_new hs]
      have hlv : plt l v := by unfold vlt at hl; unfold plt; omega
      refine ⟨List.pairwise_append.2 ⟨h.pw, List.pairwise_singleton _ _, fun a ha b hb => ?_⟩, fun x hx => ?_, fun c hc => ?_⟩
      · rw [List.mem_singleton] at hb; subst hb
        rcases List.mem_append.1 ha with ha | ha
        · have := hpw.2.2 a ha l (by simp)
          unfold plt at this hlv ⊢; omega
        · rw [List.mem_singleton] at ha; subst ha; exact hlv
      · rcases List.mem_append.1 hx with hx | hx
        · obtain ⟨c, hc, e⟩ := h.cov x hx
          exact ⟨c, List.mem_append_left _ hc, e⟩
        · rw [List.mem_singleton] at hx; subst hx; exact ⟨x, by simp, rfl, rfl, Int.le_refl _⟩
      · rcases List.mem_append.1 hc with hc | hc
        · exact List.mem_append_left _ (h.sub c hc)
        · exact List.mem_append_right _ hc
theorem CurInv.all {xs : List Verdict} (h : Asc xs) : ∀ k, k ≤ xs.length → CurInv ((xs.take k).foldl curStep []) (xs.take k)
  | 0, _ => ⟨List.Pairwise.nil, fun _ h => (by simp at h), fun _ h => (by simp at h)⟩
  | k + 1, hk => by
    have ih := CurInv.all h k (by omega)
    rw [cur_step xs k (by omega), List.take_succ_eq_append_getElem (by omega)]
    refine ih.step fun x hx => ?_
    obtain ⟨i, hi, rfl⟩ := List.getElem_of_mem hx
    rw [List.length_take] at hi
    rw [List.getElem_take]
    exact h i k (by omega) (by omega) (by omega)
/-- a current verdict is the latest of its pair -/
theorem cur_late {xs : List Verdict} {c x : Verdict} (hc : c ∈ curV xs) (hx : x ∈ xs) (ha : x.a = c.a) (hb : x.b = c.b) : x.time ≤ c.time := by
  unfold curV at hc
  split at hc
  · rename_i h
    have hI := CurInv.all (areVers_asc h).1 xs.length (Nat.le_refl _)
    rw [List.take_length] at hI
    obtain ⟨d, hd, e1, e2, e3⟩ := hI.cov x hx
    obtain ⟨i, hi, rfl⟩ := List.getElem_of_mem hc
    obtain ⟨j, hj, rfl⟩ := List.getElem_of_mem hd
    have hP := List.pairwise_iff_getElem.1 hI.pw
    rcases Nat.lt_trichotomy i j with hij | rfl | hij
    · have := hP i j hi hj hij; unfold plt at this; omega
    · exact e3
    · have := hP j i hj hi hij; unfold plt at this; omega
  · cases hc
end Go.Proofs.YtblggajfdhjmjaaDoor

namespace Go.Proofs.YtblggajfdhjmjaaDoor
open Go.RowKit

set_option maxHeartbeats 2000000 in
set_option maxRecDepth 20000 in
theorem impl_AddVerdict (v : Value) (xs : List Verdict) (x : Verdict) (w : World) (h : Sl verdictR w v xs) (hl : xs.length ≤ 1048576) :
    Calls Tryd.prog 6 #[v, .agg #[.int .i64 x.a, .int .i64 x.b, .bool x.same, .int .i64 x.time]] w (VsOut w · · (addV xs x)) := by
  obtain ⟨A, cap, rfl, hm⟩ := h.form
  have xb : Ext w (w.alloc (.cells #[.int .i64 x.a, .int .i64 x.b, .bool x.same, .int .i64 x.time] 26)) := (Ext.refl w).alloc _
  have HBX := hid (show ∀ W, Ext (w.alloc (.cells #[.int .i64 x.a, .int .i64 x.b, .bool x.same, .int .i64 x.time] 26)) W → W.cell? ⟨w.heap.size, 0, none⟩ = some (.int .i64 x.a) ∧ W.cell? ⟨w.heap.size, 1, none⟩ = some (.int .i64 x.b) ∧ W.cell? ⟨w.heap.size, 2, none⟩ = some (.bool x.same) ∧ W.cell? ⟨w.heap.size, 3, none⟩ = some (.int .i64 x.time) from fun W y => ⟨y.box.1 0, y.box.1 1, y.box.1 2, y.box.1 3⟩)
  go_enter Tryd.func6, Tryd.ntmps6
  go_wp2_with fail
  refine (slices_Clone_vB _ xs _ (h.mono xb) hl).mono ?_
  rintro e w1 ⟨v1, rfl, hB, x1⟩
  go_wp2_with fail
  refine (impl_AreVerdicts _ xs _ (h.mono (xb.trans x1))).mono ?_
  rintro e w2 ⟨rfl, x2⟩
  cases hv : areVers xs with
  | false =>
    have HR := hid (addV_no (xs := xs) (x := x) (fun k => by rw [hv] at k; cases k.1))
    clear hv
    obtain ⟨F3, d1, d2, d3⟩ := hB.done
    go_wp2
    refine bodyPost_ret (v := .tuple #[v1, .bool false]) (by simp [results, Tryd.results6, go_sem]) rfl ?_
    exact ⟨_, F3, by rw [HR.out], by rw [HR.out]; exact d1.ext x2, NewF.ext xb ⟨d2, d3⟩, (xb.trans x1).trans x2⟩
  | true =>
    obtain ⟨hasc, _, h8⟩ := areVers_asc hv
    obtain ⟨b0, b1, b2, b3⟩ := HBX.out _ (x1.trans x2)
    go_wp2_with fail
    refine (impl_valid x _).mono ?_
    rintro e w3 ⟨rfl, x3⟩
    have x23 := x2.trans x3
    clear b0 b1 b2 b3 x2 x3
    cases hk : okV x with
    | false =>
      have HR := hid (addV_no (xs := xs) (x := x) (fun k => by rw [hk] at k; cases k.2.1))
      clear hk hv
      obtain ⟨F3, d1, d2, d3⟩ := hB.done
      go_wp2
      refine bodyPost_ret (v := .tuple #[v1, .bool false]) (by simp [results, Tryd.results6, go_sem]) rfl ?_
      exact ⟨_, F3, by rw [HR.out], by rw [HR.out]; exact d1.ext x23, NewF.ext xb ⟨d2, d3⟩, (xb.trans x1).trans x23⟩
    | true =>
      by_cases h88 : xs.length = 8
      · have h8' : ((xs.length : Int) == 8) = true := by simp [h88]
        have HR := hid (addV_no (xs := xs) (x := x) (fun k => k.2.2.2 h88))
        clear hk hv h88
        obtain ⟨F3, d1, d2, d3⟩ := hB.done
        go_wp2
        refine bodyPost_ret (v := .tuple #[v1, .bool false]) (by simp [results, Tryd.results6, go_sem]) rfl ?_
        exact ⟨_, F3, by rw [HR.out], by rw [HR.out]; exact d1.ext x23, NewF.ext xb ⟨d2, d3⟩, (xb.trans x1).trans x23⟩
      · have h8' : ((xs.length : Int) == 8) = false := by simp; omega
        have HY := hid (show idxV xs x = -1 → addV xs x = (putV xs x, true) from fun hj => addV_yes ⟨hv, hk, hj, h88⟩)
        have HOKX := hid (okV_verok hk)
        have H88 := hid h88
        obtain ⟨b0, b1, b2, b3⟩ := HBX.out _ (x1.trans x23)
        clear hk hv h88
        go_wp2_with fail
        refine (slices_BSF_v _ xs x _ (h.mono ((xb.trans x1).trans x23)) hasc h8).mono ?_
        rintro e w4 ⟨rfl, x4⟩
        have x24 := x23.trans x4
        clear b0 b1 b2 b3 x23 x4
        cases hmem : memV xs x with
        | true =>
          have HR := hid (addV_no (xs := xs) (x := x) (fun k => by
            have hm := (memV_iff xs x).1 hmem
            rcases idxV_cases xs x with ⟨_, hn⟩ | ⟨j, _, hj, _⟩
            · exact hn hm
            · rw [hj] at k; exact absurd k.2.2.1 (by omega)))
          clear hmem
          obtain ⟨F3, d1, d2, d3⟩ := hB.done
          go_wp2
          refine bodyPost_ret (v := .tuple #[v1, .bool false]) (by simp [results, Tryd.results6, go_sem]) rfl ?_
          exact ⟨_, F3, by rw [HR.out], by rw [HR.out]; exact d1.ext x24, NewF.ext xb ⟨d2, d3⟩, (xb.trans x1).trans x24⟩
        | false =>
          have HR := hid (HY.out (by
            rcases idxV_cases xs x with ⟨hj, _⟩ | ⟨j, hjl, _, e⟩
            · exact hj
            · have : memV xs x = true := (memV_iff xs x).2 (e ▸ List.getElem_mem hjl)
              rw [hmem] at this; cases this))
          obtain ⟨b0, b1, b2, b3⟩ := HBX.out _ (x1.trans x24)
          have hB5 := hB.ext (x24.trans ((Ext.refl w4).alloc (.cells #[.int .i64 x.a, .int .i64 x.b, .bool x.same, .int .i64 x.time] 26)))
          have hlt5 := (hB.ext x24).lt
          have hsz := hB.lt
          obtain ⟨cs, q1, q2, q3, q4, q5⟩ := hB5
          obtain ⟨hfl, hoks, _⟩ := vers_flat q2
          have hle := cntV_le xs x
          have hne : v1.ownBlock ≠ some w4.heap.size := fun e => by have := (hlt5.2 _ e).1; omega
          have hbase : (w.alloc (.cells #[.int .i64 x.a, .int .i64 x.b, .bool x.same, .int .i64 x.time] 26)).heap.size ≤ (w4.alloc (.cells #[.int .i64 x.a, .int .i64 x.b, .bool x.same, .int .i64 x.time] 26)).heap.size := ((x1.trans x24).trans ((Ext.refl w4).alloc (.cells #[.int .i64 x.a, .int .i64 x.b, .bool x.same, .int .i64 x.time] 26))).size
          have hq4 : xs.length ≤ 1048576 := hl
          have ho1 : ∀ u ∈ cs, u.oneCell' = true := by rw [hfl]; exact vers_one _
          have HINS := hid (slices_Insert_v v1 cs x.cells xs.length (cntV xs x) (w.alloc (.cells #[.int .i64 x.a, .int .i64 x.b, .bool x.same, .int .i64 x.time] 26)).heap.size w4.heap.size (w4.alloc (.cells #[.int .i64 x.a, .int .i64 x.b, .bool x.same, .int .i64 x.time] 26)) q1 hle hq4 hbase rfl (heap_alloc_new w4 _) hne ho1 (by simp [Verdict.cells, Value.oneCell']))
          have HFL := hid (And.intro hfl hoks)
          have xw5 := (xb.trans x1).trans (x24.trans ((Ext.refl w4).alloc (.cells #[.int .i64 x.a, .int .i64 x.b, .bool x.same, .int .i64 x.time] 26)))
          clear hB q1 q2 q3 q4 q5 hfl hoks hsz hlt5 hne hbase ho1 hmem
          go_wp2_with fail
          refine HINS.out.mono ?_
          rintro e w6 ⟨v6, rfl, r1, r2, r3, r4⟩
          have hlen := putV_len xs x
          have hB6 : Bld verdictO w6 (w.alloc (.cells #[.int .i64 x.a, .int .i64 x.b, .bool x.same, .int .i64 x.time] 26)).heap.size 26 v6 (putV xs x) [] := by
            refine ⟨_, by rw [hlen]; exact r1, ?_, fun _ _ h9 => (by cases h9), List.nodup_nil, fun _ h9 => by cases h9⟩
            have e1 : cs.take (cntV xs x * 4) ++ (x.cells ++ cs.drop (cntV xs x * 4)) = (putV xs x).flatMap Verdict.cells := by
              unfold putV
              rw [List.flatMap_append, List.flatMap_cons, vflat_take, vflat_drop, HFL.out.1]
            rw [e1]
            refine vers_own _ (fun y hy => ?_) _
            unfold putV at hy
            rcases List.mem_append.1 hy with hy | hy
            · exact HFL.out.2 y (List.mem_of_mem_take hy)
            · rcases List.mem_cons.1 hy with rfl | hy
              · exact HOKX.out
              · exact HFL.out.2 y (List.mem_of_mem_drop hy)
          obtain ⟨F3, d1, d2, d3⟩ := hB6.done
          go_wp2
          refine bodyPost_ret (v := .tuple #[v6, .bool true]) (by simp [results, Tryd.results6, go_sem]) rfl ?_
          exact ⟨_, F3, by rw [HR.out], by rw [HR.out]; exact d1, NewF.ext xb ⟨d2, d3⟩, r2 w (by rw [World.size_alloc]; omega) xw5⟩
end Go.Proofs.YtblggajfdhjmjaaDoor

namespace Go.Proofs.YtblggajfdhjmjaaDoor
open Go.RowKit

set_option maxHeartbeats 1000000 in
set_option maxRecDepth 20000 in
theorem spec_DrawAddVerdict (w : World) (v : Value) (bs : List Int) (h : Sl u8R w v bs) :
    Calls Tryd.prog 5 #[v] w fun e w2 => ∃ v1 xs, ∃ x : Verdict, e = .returned (.tuple #[v1, .agg #[.int .i64 x.a, .int .i64 x.b, .bool x.same, .int .i64 x.time]]) ∧ Sl verdictR w2 v1 xs ∧ xs.length ≤ 7 ∧ x.ok ∧ Ext w w2 := by
  go_enter Tryd.func5, Tryd.ntmps5
  go_wp2_with fail
  have xa : Ext w (w.alloc (.cells #[.int .i64 0, .int .i64 0, .bool false, .int .i64 0] 26)) := (Ext.refl w).alloc _
  have b0 : Blk (w.alloc (.cells #[.int .i64 0, .int .i64 0, .bool false, .int .i64 0] 26)) w.heap.size 26 [.int .i64 0, .int .i64 0, .bool false, .int .i64 0] := Blk.new w 26 #[.int .i64 0, .int .i64 0, .bool false, .int .i64 0]
  have h0 := h.mono xa
  obtain ⟨wa, hwa⟩ : ∃ wa, wa = (w.alloc (.cells #[.int .i64 0, .int .i64 0, .bool false, .int .i64 0] 26)) := ⟨_, rfl⟩
  have hsa : wa.heap.size = w.heap.size + 1 := by rw [hwa]; simp
  rw [← hwa] at b0 h0 xa ⊢
  have HSA := hid hsa
  clear hwa hsa
  refine (spec_l1New wa v bs h0).mono ?_
  rintro e w1 ⟨rfl, hc1, x1⟩
  have hg1 := hc1.base.2.2
  go_wp2_with fail
  refine (spec_l28Lists wa w1 _ hc1).mono ?_
  rintro e w2 ⟨v1, xs, rfl, hB2, hl, hc2, hk2⟩
  have b2 := b0.ext hc2.base.1
  clear hc1 x1 h0 b0 h hk2
  go_wp2_with fail
  refine (spec_l28Some wa w2 _ v1 xs (by omega) hc2 (fun w4 k4 => (hB2.kept hg1 k4).sl)).mono ?_
  rintro e w3 ⟨y, rfl, hok, hc3, hk3⟩
  have hB3 := hB2.kept hg1 hk3
  have b3 := b2.kept (Nat.ne_of_lt (by have := HSA.out; omega)) hk3
  have x03 := xa.trans hc3.base.1
  have HOK := hid hok
  have HS := hid (show w.heap.size < w1.heap.size from by have := HSA.out; omega)
  clear hok hc2 hc3 hk3 b2 hB2 hg1 xa
  obtain ⟨cR, fR⟩ := b3.cells
  go_wp2
  have b9 : Blk ((((w3.setCell ⟨w.heap.size, 0, none⟩ (.int .i64 y.a)).setCell ⟨w.heap.size, 1, none⟩ (.int .i64 y.b)).setCell ⟨w.heap.size, 2, none⟩ (.bool y.same)).setCell ⟨w.heap.size, 3, none⟩ (.int .i64 y.time)) w.heap.size 26 [.int .i64 y.a, .int .i64 y.b, .bool y.same, .int .i64 y.time] := ((((b3.setAt 0 (by show 0 < 4; decide) (.int .i64 y.a)).setAt 1 (by show 1 < 4; decide) (.int .i64 y.b)).setAt 2 (by show 2 < 4; decide) (.bool y.same)).setAt 3 (by show 3 < 4; decide) (.int .i64 y.time))
  have r0 : ((((w3.setCell ⟨w.heap.size, 0, none⟩ (.int .i64 y.a)).setCell ⟨w.heap.size, 1, none⟩ (.int .i64 y.b)).setCell ⟨w.heap.size, 2, none⟩ (.bool y.same)).setCell ⟨w.heap.size, 3, none⟩ (.int .i64 y.time)).cell? ⟨w.heap.size, 0, none⟩ = some (.int .i64 y.a) := b9.cells.1 0
  have r1 : ((((w3.setCell ⟨w.heap.size, 0, none⟩ (.int .i64 y.a)).setCell ⟨w.heap.size, 1, none⟩ (.int .i64 y.b)).setCell ⟨w.heap.size, 2, none⟩ (.bool y.same)).setCell ⟨w.heap.size, 3, none⟩ (.int .i64 y.time)).cell? ⟨w.heap.size, 1, none⟩ = some (.int .i64 y.b) := b9.cells.1 1
  have r2 : ((((w3.setCell ⟨w.heap.size, 0, none⟩ (.int .i64 y.a)).setCell ⟨w.heap.size, 1, none⟩ (.int .i64 y.b)).setCell ⟨w.heap.size, 2, none⟩ (.bool y.same)).setCell ⟨w.heap.size, 3, none⟩ (.int .i64 y.time)).cell? ⟨w.heap.size, 2, none⟩ = some (.bool y.same) := b9.cells.1 2
  have r3 : ((((w3.setCell ⟨w.heap.size, 0, none⟩ (.int .i64 y.a)).setCell ⟨w.heap.size, 1, none⟩ (.int .i64 y.b)).setCell ⟨w.heap.size, 2, none⟩ (.bool y.same)).setCell ⟨w.heap.size, 3, none⟩ (.int .i64 y.time)).cell? ⟨w.heap.size, 3, none⟩ = some (.int .i64 y.time) := b9.cells.1 3
  have x9 : Ext w ((((w3.setCell ⟨w.heap.size, 0, none⟩ (.int .i64 y.a)).setCell ⟨w.heap.size, 1, none⟩ (.int .i64 y.b)).setCell ⟨w.heap.size, 2, none⟩ (.bool y.same)).setCell ⟨w.heap.size, 3, none⟩ (.int .i64 y.time)) := ((((x03.setCell (Nat.le_refl _) (.int .i64 y.a)).setCell (Nat.le_refl _) (.int .i64 y.b)).setCell (Nat.le_refl _) (.bool y.same)).setCell (Nat.le_refl _) (.int .i64 y.time))
  refine bodyPost_ret (v := .tuple #[v1, .agg #[.int .i64 y.a, .int .i64 y.b, .bool y.same, .int .i64 y.time]]) (by simp [results, Tryd.results5, go_sem, r0, r1, r2, r3]) rfl ?_
  exact ⟨v1, xs, y, rfl, (hB3.keep (fun b hb _ => by have hne : b ≠ w.heap.size := (by have := HS.out; omega)
                                                     rw [keep_setCell hne, keep_setCell hne, keep_setCell hne, keep_setCell hne])).sl, hl, HOK.out, x9⟩
end Go.Proofs.YtblggajfdhjmjaaDoor
