/-
  WALK: l14Put (the reference's), for the drawing of groups.
-/
import Derived.Test.YtfcbapaojoecgabMgEndFnId6
import Derived.Test.YtfcbapaojoecgabMgEndFnId0
import Derived.Test.YtfcbapaojoecgabMgEndFnId8
import Derived.Deep.RegionHeld3

namespace Go.Proofs.Ytfcbapaojoecgab
open Go.RowKit

theorem int_one (w : World) (cs : List Value) (x : Int) (h : intR.rd w cs x) : ∀ u ∈ cs, u.oneCell' = true := by
  obtain ⟨rfl, _⟩ := h
  exact one_int _
theorem OwnCells.ints {w0 w : World} : ∀ {xs : List Int} {cs : List Value} {F : List Nat}, OwnCells (atO intR w0) w cs xs F → OwnCells intO w cs xs F
  | [], _, _, h => h
  | _ :: _, _, _, ⟨c, d, F1, F2, h1, h2, h3, h4⟩ => ⟨c, d, F1, F2, h1, h2, h3, h4.ints⟩
theorem Bld.ints {w0 w : World} {base : Nat} {e : TypeId} {v : Value} {xs : List Int} {F : List Nat} (h : Bld (atO intR w0) w base e v xs F) : Bld intO w base e v xs F := by
  obtain ⟨cs, h1, h2, h3⟩ := h
  exact ⟨cs, h1, h2.ints, h3⟩

set_option maxHeartbeats 4000000 in
set_option maxRecDepth 20000 in
theorem spec_l14Put (v : Value) (xs : List Int) (n : Int) (F : List Nat) (w : World) (h : OwnSl intO w v xs F) (hI : I64 n) (hl : xs.length ≤ 1048576) :
    Calls Try.prog 82 #[v, .int .i64 n] w fun e w2 => ∃ v2 ys F2, e = .returned v2 ∧ OwnSl intO w2 v2 ys F2 ∧ (F2 = F ∨ NewF w F2) ∧ ys.length ≤ xs.length + 1 ∧ Ext w w2 := by
  obtain ⟨A, cap, rfl, hm⟩ := h.form
  have hs := h.sl
  have HOW := hid h
  have HI := hid hI
  clear h hI
  go_enter Try.func82, Try.ntmps82
  go_wp2_with fail
  go_loopw [5] (fun i wr => ∃ k : Nat, i = .int .i64 k ∧ k ≤ xs.length ∧ Ext w wr) (fun i _ => xs.length - (intOf i).toNat)
  case atStart => exact ⟨0, rfl, Nat.zero_le _, Ext.refl _⟩
  case round =>
    obtain ⟨k, rfl, hkl, hx⟩ := hrel
    by_cases hlt : k < xs.length
    · obtain ⟨b, off, eA, hI9, c0⟩ := (hs.mono hx).int hlt
      subst eA
      have hlt' : (k : Int) < (xs.length : Int) := by omega
      by_cases hn : xs[k] < n
      · clear hkl hs
        go_wp2
        go_roundw
        case rel => exact ⟨k + 1, by go_num, by omega, hx⟩
        case measure => simp [intOf]; omega
      · by_cases he : xs[k] = n
        · have e1 : (xs[k] == n) = true := by simp [he]
          clear he hs
          go_wp2
          go_ret
          exact ⟨_, rfl, xs, F, HOW.out.ext hx, .inl rfl, by omega, hx⟩
        · have e1 : (xs[k] == n) = false := by simp [he]
          clear he
          go_wp2_with fail
          clear hI9 c0 e1 hn
          obtain ⟨wq, hwq⟩ : ∃ wq, wq = wr := ⟨_, rfl⟩
          rw [← hwq]
          have xq : Ext w wq := by rw [hwq]; exact hx
          have hsq : Sl intR wq (.slice (some ⟨b, off, none⟩) xs.length cap) xs := hs.mono xq
          clear hwq
          have HTK := hid (show Sl intR wq (.slice (some ⟨b, off, none⟩) k cap) (xs.take k) from hsq.take (by omega))
          have HL1 := hid (show ([] : List Int).length + k ≤ 1099511627776 by simp only [List.length_nil]; omega)
          have HL2 := hid (show (xs.take k).length + 1 ≤ 1099511627776 by rw [List.length_take]; omega)
          have HXQ := hid xq
          have hcap := hsq.cap_
          obtain ⟨A2q, hA2, HTD⟩ := Sl.tail1 (R := intR) rfl hsq k hkl
          have HL3 := hid (show (xs.take k ++ [n]).length + (xs.length - k) ≤ 1099511627776 by simp only [List.length_append, List.length_take, List.length_cons, List.length_nil]; omega)
          have a1 : k ≤ cap := by omega
          have a2 : (k : Int) ≤ (xs.length : Int) := by omega
          have a3 : (k : Int) ≤ (cap : Int) := by omega
          clear hcap xq hsq hs hx
          have HOWN := hid (fun W : World => (show (atO intR wq).own W (#[.int .i64 n] : Array Value).toList n [] from ⟨⟨rfl, HI.out⟩, rfl⟩))
          have HE1 := hid (show (wq.alloc (.cells #[] 3)).heap[wq.heap.size]? = some (.cells #[] 3 (0, 0)) from heap_alloc_new wq _)
          have HE2 := hid (show ((wq.alloc (.cells #[] 3)).alloc (.cells #[.int .i64 n] 3)).heap[wq.heap.size]? = some (.cells #[] 3 (0, 0)) from (((Ext.refl (wq.alloc (.cells #[] 3))).alloc _).block (by simp)).trans (heap_alloc_new wq _))
          have HV2 := hid (show ((wq.alloc (.cells #[] 3)).alloc (.cells #[.int .i64 n] 3)).heap[wq.heap.size + 1]? = some (.cells #[.int .i64 n] 3 (0, 0)) from by have := heap_alloc_new (wq.alloc (.cells #[] 3)) (.cells #[.int .i64 n] 3); rwa [World.size_alloc] at this)
          have HE3 := hid (show ((wq.alloc (.cells #[.int .i64 n] 3)).alloc (.cells #[] 3)).heap[wq.heap.size + 1]? = some (.cells #[] 3 (0, 0)) from by have := heap_alloc_new (wq.alloc (.cells #[.int .i64 n] 3)) (.cells #[] 3); rwa [World.size_alloc] at this)
          have HV3 := hid (show ((wq.alloc (.cells #[.int .i64 n] 3)).alloc (.cells #[] 3)).heap[wq.heap.size]? = some (.cells #[.int .i64 n] 3 (0, 0)) from (((Ext.refl (wq.alloc (.cells #[.int .i64 n] 3))).alloc _).block (by simp)).trans (heap_alloc_new wq _))
          go_region_held3 (fun w' => True) (exact trivial) (first | (have hsecond := hB2; refine step_appS (R := intR) (by decide) elemInt (by decide) int_one rfl _ _ rfl hB2 rfl rfl HTD.out (by repeat (first | with_reducible exact Ext.refl _ | with_reducible assumption | with_reducible refine Ext.drew ?_ | with_reducible refine Ext.alloc ?_ _ | with_reducible refine Ext.trans ?_ (by with_reducible assumption))) HL3.out xs2.size (w0 := wq) (Nat.le_refl _) xs2 ?_; intro v6 w6 hB3 xs3 _) | (refine step_app1 (R := atO intR wq) elemInt (show 0 < intR.n by decide) rfl _ _ rfl (hB1.ext ((Ext.refl w4).alloc (.cells #[.int .i64 n] 3))) rfl w4.heap.size 1 rfl (heap_alloc_new w4 _) (one_int _) (y := n) (HOWN.out _) fresh_nil HL2.out (by decide) (by rw [World.size_alloc]; have := xs1.size; omega) (w0 := wq) (Nat.le_refl _) (by repeat (first | with_reducible exact Ext.refl _ | with_reducible assumption | with_reducible refine Ext.drew ?_ | with_reducible refine Ext.alloc ?_ _ | with_reducible refine Ext.trans ?_ (by with_reducible assumption))) ?_; intro v5 w5 hB2 xs2) | (refine step_app1 (R := atO intR wq) elemInt (show 0 < intR.n by decide) rfl _ _ rfl (hB1) rfl (wq.heap.size + 1) 1 rfl ((hk1 _ (by simp <;> omega) (by simp [Value.ownBlock])).trans HV2.out) (one_int _) (y := n) (HOWN.out _) fresh_nil HL2.out (by decide) xs1.size (w0 := wq) (Nat.le_refl _) (by repeat (first | with_reducible exact Ext.refl _ | with_reducible assumption | with_reducible refine Ext.drew ?_ | with_reducible refine Ext.alloc ?_ _ | with_reducible refine Ext.trans ?_ (by with_reducible assumption))) ?_; intro v5 w5 hB2 xs2) | (refine step_app1 (R := atO intR wq) elemInt (show 0 < intR.n by decide) rfl _ _ rfl (hB1) rfl wq.heap.size 1 rfl ((hk1 _ (by simp <;> omega) (by simp [Value.ownBlock])).trans HV3.out) (one_int _) (y := n) (HOWN.out _) fresh_nil HL2.out (by decide) xs1.size (w0 := wq) (Nat.le_refl _) (by repeat (first | with_reducible exact Ext.refl _ | with_reducible assumption | with_reducible refine Ext.drew ?_ | with_reducible refine Ext.alloc ?_ _ | with_reducible refine Ext.trans ?_ (by with_reducible assumption))) ?_; intro v5 w5 hB2 xs2) | (refine step_appS (R := intR) (by decide) elemInt (by decide) int_one rfl _ _ rfl (Bld.empG (R := atO intR wq) (base := wq.heap.size) (Nat.le_refl _) HE1.out) rfl rfl HTK.out (by repeat (first | with_reducible exact Ext.refl _ | with_reducible assumption | with_reducible refine Ext.drew ?_ | with_reducible refine Ext.alloc ?_ _ | with_reducible refine Ext.trans ?_ (by with_reducible assumption))) HL1.out (by simp <;> omega) (w0 := wq) (Nat.le_refl _) (by repeat (first | with_reducible exact Ext.refl _ | with_reducible assumption | with_reducible refine Ext.drew ?_ | with_reducible refine Ext.alloc ?_ _ | with_reducible refine Ext.trans ?_ (by with_reducible assumption))) ?_; intro v4 w4 hB1 xs1 hk1; rw [List.nil_append] at hB1) | (refine step_appS (R := intR) (by decide) elemInt (by decide) int_one rfl _ _ rfl (Bld.empG (R := atO intR wq) (base := wq.heap.size) (Nat.le_refl _) HE2.out) rfl rfl HTK.out (by repeat (first | with_reducible exact Ext.refl _ | with_reducible assumption | with_reducible refine Ext.drew ?_ | with_reducible refine Ext.alloc ?_ _ | with_reducible refine Ext.trans ?_ (by with_reducible assumption))) HL1.out (by simp <;> omega) (w0 := wq) (Nat.le_refl _) (by repeat (first | with_reducible exact Ext.refl _ | with_reducible assumption | with_reducible refine Ext.drew ?_ | with_reducible refine Ext.alloc ?_ _ | with_reducible refine Ext.trans ?_ (by with_reducible assumption))) ?_; intro v4 w4 hB1 xs1 hk1; rw [List.nil_append] at hB1) | (refine step_appS (R := intR) (by decide) elemInt (by decide) int_one rfl _ _ rfl (Bld.empG (R := atO intR wq) (base := wq.heap.size) (Nat.le_succ _) HE3.out) rfl rfl HTK.out (by repeat (first | with_reducible exact Ext.refl _ | with_reducible assumption | with_reducible refine Ext.drew ?_ | with_reducible refine Ext.alloc ?_ _ | with_reducible refine Ext.trans ?_ (by with_reducible assumption))) HL1.out (by simp <;> omega) (w0 := wq) (Nat.le_refl _) (by repeat (first | with_reducible exact Ext.refl _ | with_reducible assumption | with_reducible refine Ext.drew ?_ | with_reducible refine Ext.alloc ?_ _ | with_reducible refine Ext.trans ?_ (by with_reducible assumption))) ?_; intro v4 w4 hB1 xs1 hk1; rw [List.nil_append] at hB1))
          all_goals
            obtain ⟨F3, o3, n3, m3⟩ := hB3.ints.done
            clear hB3
            have HO3 := hid o3
            have HN3 := hid (show NewF w F3 from ⟨n3, fun b hb => by have := m3 b hb; have := HXQ.out.size; omega⟩)
            clear o3 n3 m3
            go_wp2
            go_ret
            exact ⟨v6, rfl, _, F3, HO3.out, .inr HN3.out, by simp only [List.length_append, List.length_take, List.length_drop, List.length_cons, List.length_nil]; omega, HXQ.out.trans xs3⟩
    · have hkl2 : k = xs.length := by omega
      subst hkl2
      go_wp2_with fail
      obtain ⟨wq, hwq⟩ : ∃ wq, wq = wr := ⟨_, rfl⟩
      rw [← hwq]
      have xq : Ext w wq := by rw [hwq]; exact hx
      have hsq : Sl intR wq (.slice A xs.length cap) xs := hs.mono xq
      clear hwq
      have HTK := hid (show Sl intR wq (.slice A xs.length cap) (xs.take xs.length) from hsq.take (by omega))
      have HL1 := hid (show ([] : List Int).length + xs.length ≤ 1099511627776 by simp only [List.length_nil]; omega)
      have HL2 := hid (show (xs.take xs.length).length + 1 ≤ 1099511627776 by rw [List.length_take]; omega)
      have HXQ := hid xq
      have hcap := hsq.cap_
      have HCAP := hid hcap.2.2
      have HTD := hid (fun (A' : Option Addr) (c' : Nat) (hc : c' ≤ 9223372036854775807) => (⟨_, _, rfl, ⟨Nat.zero_le _, by unfold maxLen; omega⟩, fun i hi => absurd hi (Nat.not_lt_zero _)⟩ : Sl intR wq (.slice A' 0 c') []))
      have HL3 := hid (show (xs.take xs.length ++ [n]).length + 0 ≤ 1099511627776 by simp only [List.length_append, List.length_take, List.length_cons, List.length_nil]; omega)
      have a1 : xs.length ≤ cap := by omega
      have a3 : (xs.length : Int) ≤ (cap : Int) := by omega
      clear hcap xq hsq hs hlt hx
      by_cases hcp : cap = xs.length
      · subst hcp
        have HOWN := hid (fun W : World => (show (atO intR wq).own W (#[.int .i64 n] : Array Value).toList n [] from ⟨⟨rfl, HI.out⟩, rfl⟩))
        have HE1 := hid (show (wq.alloc (.cells #[] 3)).heap[wq.heap.size]? = some (.cells #[] 3 (0, 0)) from heap_alloc_new wq _)
        have HE2 := hid (show ((wq.alloc (.cells #[] 3)).alloc (.cells #[.int .i64 n] 3)).heap[wq.heap.size]? = some (.cells #[] 3 (0, 0)) from (((Ext.refl (wq.alloc (.cells #[] 3))).alloc _).block (by simp)).trans (heap_alloc_new wq _))
        have HV2 := hid (show ((wq.alloc (.cells #[] 3)).alloc (.cells #[.int .i64 n] 3)).heap[wq.heap.size + 1]? = some (.cells #[.int .i64 n] 3 (0, 0)) from by have := heap_alloc_new (wq.alloc (.cells #[] 3)) (.cells #[.int .i64 n] 3); rwa [World.size_alloc] at this)
        have HE3 := hid (show ((wq.alloc (.cells #[.int .i64 n] 3)).alloc (.cells #[] 3)).heap[wq.heap.size + 1]? = some (.cells #[] 3 (0, 0)) from by have := heap_alloc_new (wq.alloc (.cells #[.int .i64 n] 3)) (.cells #[] 3); rwa [World.size_alloc] at this)
        have HV3 := hid (show ((wq.alloc (.cells #[.int .i64 n] 3)).alloc (.cells #[] 3)).heap[wq.heap.size]? = some (.cells #[.int .i64 n] 3 (0, 0)) from (((Ext.refl (wq.alloc (.cells #[.int .i64 n] 3))).alloc _).block (by simp)).trans (heap_alloc_new wq _))
        go_region_held3 (fun w' => True) (exact trivial) (first | (have hsecond := hB2; refine step_appS (R := intR) (by decide) elemInt (by decide) int_one rfl _ _ rfl hB2 rfl rfl (HTD.out _ _ (by first | decide | (have := HCAP.out; omega))) (by repeat (first | with_reducible exact Ext.refl _ | with_reducible assumption | with_reducible refine Ext.drew ?_ | with_reducible refine Ext.alloc ?_ _ | with_reducible refine Ext.trans ?_ (by with_reducible assumption))) HL3.out xs2.size (w0 := wq) (Nat.le_refl _) xs2 ?_; intro v6 w6 hB3 xs3 _) | (refine step_app1 (R := atO intR wq) elemInt (show 0 < intR.n by decide) rfl _ _ rfl (hB1.ext ((Ext.refl w4).alloc (.cells #[.int .i64 n] 3))) rfl w4.heap.size 1 rfl (heap_alloc_new w4 _) (one_int _) (y := n) (HOWN.out _) fresh_nil HL2.out (by decide) (by rw [World.size_alloc]; have := xs1.size; omega) (w0 := wq) (Nat.le_refl _) (by repeat (first | with_reducible exact Ext.refl _ | with_reducible assumption | with_reducible refine Ext.drew ?_ | with_reducible refine Ext.alloc ?_ _ | with_reducible refine Ext.trans ?_ (by with_reducible assumption))) ?_; intro v5 w5 hB2 xs2) | (refine step_app1 (R := atO intR wq) elemInt (show 0 < intR.n by decide) rfl _ _ rfl (hB1) rfl (wq.heap.size + 1) 1 rfl ((hk1 _ (by simp <;> omega) (by simp [Value.ownBlock])).trans HV2.out) (one_int _) (y := n) (HOWN.out _) fresh_nil HL2.out (by decide) xs1.size (w0 := wq) (Nat.le_refl _) (by repeat (first | with_reducible exact Ext.refl _ | with_reducible assumption | with_reducible refine Ext.drew ?_ | with_reducible refine Ext.alloc ?_ _ | with_reducible refine Ext.trans ?_ (by with_reducible assumption))) ?_; intro v5 w5 hB2 xs2) | (refine step_app1 (R := atO intR wq) elemInt (show 0 < intR.n by decide) rfl _ _ rfl (hB1) rfl wq.heap.size 1 rfl ((hk1 _ (by simp <;> omega) (by simp [Value.ownBlock])).trans HV3.out) (one_int _) (y := n) (HOWN.out _) fresh_nil HL2.out (by decide) xs1.size (w0 := wq) (Nat.le_refl _) (by repeat (first | with_reducible exact Ext.refl _ | with_reducible assumption | with_reducible refine Ext.drew ?_ | with_reducible refine Ext.alloc ?_ _ | with_reducible refine Ext.trans ?_ (by with_reducible assumption))) ?_; intro v5 w5 hB2 xs2) | (refine step_appS (R := intR) (by decide) elemInt (by decide) int_one rfl _ _ rfl (Bld.empG (R := atO intR wq) (base := wq.heap.size) (Nat.le_refl _) HE1.out) rfl rfl HTK.out (by repeat (first | with_reducible exact Ext.refl _ | with_reducible assumption | with_reducible refine Ext.drew ?_ | with_reducible refine Ext.alloc ?_ _ | with_reducible refine Ext.trans ?_ (by with_reducible assumption))) HL1.out (by simp <;> omega) (w0 := wq) (Nat.le_refl _) (by repeat (first | with_reducible exact Ext.refl _ | with_reducible assumption | with_reducible refine Ext.drew ?_ | with_reducible refine Ext.alloc ?_ _ | with_reducible refine Ext.trans ?_ (by with_reducible assumption))) ?_; intro v4 w4 hB1 xs1 hk1; rw [List.nil_append] at hB1) | (refine step_appS (R := intR) (by decide) elemInt (by decide) int_one rfl _ _ rfl (Bld.empG (R := atO intR wq) (base := wq.heap.size) (Nat.le_refl _) HE2.out) rfl rfl HTK.out (by repeat (first | with_reducible exact Ext.refl _ | with_reducible assumption | with_reducible refine Ext.drew ?_ | with_reducible refine Ext.alloc ?_ _ | with_reducible refine Ext.trans ?_ (by with_reducible assumption))) HL1.out (by simp <;> omega) (w0 := wq) (Nat.le_refl _) (by repeat (first | with_reducible exact Ext.refl _ | with_reducible assumption | with_reducible refine Ext.drew ?_ | with_reducible refine Ext.alloc ?_ _ | with_reducible refine Ext.trans ?_ (by with_reducible assumption))) ?_; intro v4 w4 hB1 xs1 hk1; rw [List.nil_append] at hB1) | (refine step_appS (R := intR) (by decide) elemInt (by decide) int_one rfl _ _ rfl (Bld.empG (R := atO intR wq) (base := wq.heap.size) (Nat.le_succ _) HE3.out) rfl rfl HTK.out (by repeat (first | with_reducible exact Ext.refl _ | with_reducible assumption | with_reducible refine Ext.drew ?_ | with_reducible refine Ext.alloc ?_ _ | with_reducible refine Ext.trans ?_ (by with_reducible assumption))) HL1.out (by simp <;> omega) (w0 := wq) (Nat.le_refl _) (by repeat (first | with_reducible exact Ext.refl _ | with_reducible assumption | with_reducible refine Ext.drew ?_ | with_reducible refine Ext.alloc ?_ _ | with_reducible refine Ext.trans ?_ (by with_reducible assumption))) ?_; intro v4 w4 hB1 xs1 hk1; rw [List.nil_append] at hB1))
        all_goals
          obtain ⟨F3, o3, n3, m3⟩ := hB3.ints.done
          clear hB3
          have HO3 := hid o3
          have HN3 := hid (show NewF w F3 from ⟨n3, fun b hb => by have := m3 b hb; have := HXQ.out.size; omega⟩)
          clear o3 n3 m3
          go_wp2
          go_ret
          exact ⟨v6, rfl, _, F3, HO3.out, .inr HN3.out, by simp only [List.length_append, List.length_take, List.length_drop, List.length_cons, List.length_nil]; omega, HXQ.out.trans xs3⟩
      · have HOWN := hid (fun W : World => (show (atO intR wq).own W (#[.int .i64 n] : Array Value).toList n [] from ⟨⟨rfl, HI.out⟩, rfl⟩))
        have HE1 := hid (show (wq.alloc (.cells #[] 3)).heap[wq.heap.size]? = some (.cells #[] 3 (0, 0)) from heap_alloc_new wq _)
        have HE2 := hid (show ((wq.alloc (.cells #[] 3)).alloc (.cells #[.int .i64 n] 3)).heap[wq.heap.size]? = some (.cells #[] 3 (0, 0)) from (((Ext.refl (wq.alloc (.cells #[] 3))).alloc _).block (by simp)).trans (heap_alloc_new wq _))
        have HV2 := hid (show ((wq.alloc (.cells #[] 3)).alloc (.cells #[.int .i64 n] 3)).heap[wq.heap.size + 1]? = some (.cells #[.int .i64 n] 3 (0, 0)) from by have := heap_alloc_new (wq.alloc (.cells #[] 3)) (.cells #[.int .i64 n] 3); rwa [World.size_alloc] at this)
        have HE3 := hid (show ((wq.alloc (.cells #[.int .i64 n] 3)).alloc (.cells #[] 3)).heap[wq.heap.size + 1]? = some (.cells #[] 3 (0, 0)) from by have := heap_alloc_new (wq.alloc (.cells #[.int .i64 n] 3)) (.cells #[] 3); rwa [World.size_alloc] at this)
        have HV3 := hid (show ((wq.alloc (.cells #[.int .i64 n] 3)).alloc (.cells #[] 3)).heap[wq.heap.size]? = some (.cells #[.int .i64 n] 3 (0, 0)) from (((Ext.refl (wq.alloc (.cells #[.int .i64 n] 3))).alloc _).block (by simp)).trans (heap_alloc_new wq _))
        go_region_held3 (fun w' => True) (exact trivial) (first | (have hsecond := hB2; refine step_appS (R := intR) (by decide) elemInt (by decide) int_one rfl _ _ rfl hB2 rfl rfl (HTD.out _ _ (by first | decide | (have := HCAP.out; omega))) (by repeat (first | with_reducible exact Ext.refl _ | with_reducible assumption | with_reducible refine Ext.drew ?_ | with_reducible refine Ext.alloc ?_ _ | with_reducible refine Ext.trans ?_ (by with_reducible assumption))) HL3.out xs2.size (w0 := wq) (Nat.le_refl _) xs2 ?_; intro v6 w6 hB3 xs3 _) | (refine step_app1 (R := atO intR wq) elemInt (show 0 < intR.n by decide) rfl _ _ rfl (hB1.ext ((Ext.refl w4).alloc (.cells #[.int .i64 n] 3))) rfl w4.heap.size 1 rfl (heap_alloc_new w4 _) (one_int _) (y := n) (HOWN.out _) fresh_nil HL2.out (by decide) (by rw [World.size_alloc]; have := xs1.size; omega) (w0 := wq) (Nat.le_refl _) (by repeat (first | with_reducible exact Ext.refl _ | with_reducible assumption | with_reducible refine Ext.drew ?_ | with_reducible refine Ext.alloc ?_ _ | with_reducible refine Ext.trans ?_ (by with_reducible assumption))) ?_; intro v5 w5 hB2 xs2) | (refine step_app1 (R := atO intR wq) elemInt (show 0 < intR.n by decide) rfl _ _ rfl (hB1) rfl (wq.heap.size + 1) 1 rfl ((hk1 _ (by simp <;> omega) (by simp [Value.ownBlock])).trans HV2.out) (one_int _) (y := n) (HOWN.out _) fresh_nil HL2.out (by decide) xs1.size (w0 := wq) (Nat.le_refl _) (by repeat (first | with_reducible exact Ext.refl _ | with_reducible assumption | with_reducible refine Ext.drew ?_ | with_reducible refine Ext.alloc ?_ _ | with_reducible refine Ext.trans ?_ (by with_reducible assumption))) ?_; intro v5 w5 hB2 xs2) | (refine step_app1 (R := atO intR wq) elemInt (show 0 < intR.n by decide) rfl _ _ rfl (hB1) rfl wq.heap.size 1 rfl ((hk1 _ (by simp <;> omega) (by simp [Value.ownBlock])).trans HV3.out) (one_int _) (y := n) (HOWN.out _) fresh_nil HL2.out (by decide) xs1.size (w0 := wq) (Nat.le_refl _) (by repeat (first | with_reducible exact Ext.refl _ | with_reducible assumption | with_reducible refine Ext.drew ?_ | with_reducible refine Ext.alloc ?_ _ | with_reducible refine Ext.trans ?_ (by with_reducible assumption))) ?_; intro v5 w5 hB2 xs2) | (refine step_appS (R := intR) (by decide) elemInt (by decide) int_one rfl _ _ rfl (Bld.empG (R := atO intR wq) (base := wq.heap.size) (Nat.le_refl _) HE1.out) rfl rfl HTK.out (by repeat (first | with_reducible exact Ext.refl _ | with_reducible assumption | with_reducible refine Ext.drew ?_ | with_reducible refine Ext.alloc ?_ _ | with_reducible refine Ext.trans ?_ (by with_reducible assumption))) HL1.out (by simp <;> omega) (w0 := wq) (Nat.le_refl _) (by repeat (first | with_reducible exact Ext.refl _ | with_reducible assumption | with_reducible refine Ext.drew ?_ | with_reducible refine Ext.alloc ?_ _ | with_reducible refine Ext.trans ?_ (by with_reducible assumption))) ?_; intro v4 w4 hB1 xs1 hk1; rw [List.nil_append] at hB1) | (refine step_appS (R := intR) (by decide) elemInt (by decide) int_one rfl _ _ rfl (Bld.empG (R := atO intR wq) (base := wq.heap.size) (Nat.le_refl _) HE2.out) rfl rfl HTK.out (by repeat (first | with_reducible exact Ext.refl _ | with_reducible assumption | with_reducible refine Ext.drew ?_ | with_reducible refine Ext.alloc ?_ _ | with_reducible refine Ext.trans ?_ (by with_reducible assumption))) HL1.out (by simp <;> omega) (w0 := wq) (Nat.le_refl _) (by repeat (first | with_reducible exact Ext.refl _ | with_reducible assumption | with_reducible refine Ext.drew ?_ | with_reducible refine Ext.alloc ?_ _ | with_reducible refine Ext.trans ?_ (by with_reducible assumption))) ?_; intro v4 w4 hB1 xs1 hk1; rw [List.nil_append] at hB1) | (refine step_appS (R := intR) (by decide) elemInt (by decide) int_one rfl _ _ rfl (Bld.empG (R := atO intR wq) (base := wq.heap.size) (Nat.le_succ _) HE3.out) rfl rfl HTK.out (by repeat (first | with_reducible exact Ext.refl _ | with_reducible assumption | with_reducible refine Ext.drew ?_ | with_reducible refine Ext.alloc ?_ _ | with_reducible refine Ext.trans ?_ (by with_reducible assumption))) HL1.out (by simp <;> omega) (w0 := wq) (Nat.le_refl _) (by repeat (first | with_reducible exact Ext.refl _ | with_reducible assumption | with_reducible refine Ext.drew ?_ | with_reducible refine Ext.alloc ?_ _ | with_reducible refine Ext.trans ?_ (by with_reducible assumption))) ?_; intro v4 w4 hB1 xs1 hk1; rw [List.nil_append] at hB1))
        all_goals
          obtain ⟨F3, o3, n3, m3⟩ := hB3.ints.done
          clear hB3
          have HO3 := hid o3
          have HN3 := hid (show NewF w F3 from ⟨n3, fun b hb => by have := m3 b hb; have := HXQ.out.size; omega⟩)
          clear o3 n3 m3
          go_wp2
          go_ret
          exact ⟨v6, rfl, _, F3, HO3.out, .inr HN3.out, by simp only [List.length_append, List.length_take, List.length_drop, List.length_cons, List.length_nil]; omega, HXQ.out.trans xs3⟩

end Go.Proofs.Ytfcbapaojoecgab
