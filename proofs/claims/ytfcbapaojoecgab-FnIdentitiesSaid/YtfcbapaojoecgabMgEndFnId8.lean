/-
  WALK: l26Put (the reference's).
-/
import Derived.Test.YtfcbapaojoecgabMgEndFnId2
import Derived.Test.YtfcbapaojoecgabMgEndFnId6
import Derived.Test.YtfcbapaojoecgabMgEndFnId3
import Derived.Deep.RegionHeld3

namespace Go.Proofs.Ytfcbapaojoecgab
open Go.RowKit

theorem one_ent (id : Int) (A : Option Addr) (n k : Nat) : ∀ u ∈ (#[Value.int .i64 id, .slice A n k] : Array Value).toList, u.oneCell' = true := by simp [Value.oneCell']
theorem ent_one (w : World) (cs : List Value) (x : Entity) (h : entityR.rd w cs x) : ∀ u ∈ cs, u.oneCell' = true := by
  obtain ⟨m, rfl, _, hs⟩ := h
  obtain ⟨A, c, rfl, _⟩ := hs.form
  exact one_ent _ _ _ _
theorem Bld.empG {α : Type} {R : RepO α} {W : World} {base g : Nat} {e : TypeId} (hb : base ≤ g) (h : W.heap[g]? = some (.cells #[] e (0, 0))) : Bld R W base e (.slice (some ⟨g, 0, none⟩) 0 0) ([] : List α) [] :=
  ⟨[], ⟨by simp, .inr ⟨g, 0, #[], rfl, hb, h, Nat.le_refl _, Nat.zero_le _, by simp, by simp⟩⟩, .nil, fun _ _ h => (by cases h), List.nodup_nil, fun _ h => by cases h⟩
/-- 's[k:]' -/
theorem Sl.dropG {α : Type} {R : Rep α} {w : World} {b off n cap : Nat} {xs : List α} (h : Sl R w (.slice (some ⟨b, off, none⟩) n cap) xs) (k : Nat) (hk : k ≤ xs.length) : Sl R w (.slice (some ⟨b, off + k * R.n, none⟩) (n - k) (cap - k)) (xs.drop k) := by
  obtain ⟨A, cap', he, hm, hi⟩ := h
  injection he with e1 e2 e3
  subst e1; subst e2; subst e3
  refine ⟨_, _, by rw [List.length_drop], ⟨by rw [List.length_drop]; omega, by omega⟩, fun i hlt => ?_⟩
  rw [List.length_drop] at hlt
  obtain ⟨b2, off2, cs, e, hr, hc2⟩ := hi (k + i) (by omega)
  injection e with e
  injection e with e4 e5 _
  subst e4; subst e5
  refine ⟨b, off + k * R.n, cs, rfl, by rw [List.getElem_drop]; exact hr, fun j hj => ?_⟩
  rw [← hc2 j hj, show off + k * R.n + i * R.n + j = off + (k + i) * R.n + j by rw [Nat.add_mul]; omega]

set_option maxHeartbeats 4000000 in
set_option maxRecDepth 20000 in
theorem spec_l26Put (v u : Value) (xs : List Entity) (x : Entity) (w : World) (h : Sl entityR w v xs) (hx : EntAt w u x) (hl : xs.length ≤ 1048576) :
    Calls Try.prog 34 #[v, u] w fun e w2 => ∃ v2, e = .returned v2 ∧ Sl entityR w2 v2 (insFr Entity.id xs x) ∧ Ext w w2 := by
  obtain ⟨A, cap, rfl, hm⟩ := h.form
  obtain ⟨m, rfl, hI, hs⟩ := hx
  obtain ⟨Am, cm, rfl, _⟩ := hs.form
  have xb : Ext w (w.alloc (.cells #[.int .i64 x.id, .slice Am x.members.length cm] 42)) := (Ext.refl w).alloc _
  have HBX := hid (show ∀ W, Ext (w.alloc (.cells #[.int .i64 x.id, .slice Am x.members.length cm] 42)) W → W.cell? ⟨w.heap.size, 0, none⟩ = some (.int .i64 x.id) ∧ W.cell? ⟨w.heap.size, 1, none⟩ = some (.slice Am x.members.length cm) from fun W y => ⟨y.box.1 0, y.box.1 1⟩)
  go_enter Try.func34, Try.ntmps34
  go_wp2_with fail
  go_loopw [5] (fun i wr => ∃ k : Nat, i = .int .i64 k ∧ k ≤ cntFr Entity.id xs x ∧ Ext (w.alloc (.cells #[.int .i64 x.id, .slice Am x.members.length cm] 42)) wr) (fun i _ => xs.length - (intOf i).toNat)
  case atStart => exact ⟨0, rfl, Nat.zero_le _, Ext.refl _⟩
  case round =>
    obtain ⟨k, rfl, hkc, hxr⟩ := hrel
    have hcl := cntFr_le Entity.id xs x
    have xw := xb.trans hxr
    have b0 := fun z : ExtOf wr => (HBX.out _ (hxr.trans z.2)).1
    by_cases hk2 : k < cntFr Entity.id xs x
    · have hlt : k < xs.length := by omega
      have hlt' : (k : Int) < (xs.length : Int) := by omega
      obtain ⟨b, off, A2, cap2, rfl, _, _, c0, _⟩ := (h.mono xw).ent hlt
      have z0 : ∀ z : ExtOf wr, z.1.cell? ⟨b, off + k * 2, none⟩ = _ := fun z => z.2.cell c0
      have hid1 : decide (xs[k].id < x.id) = true := by simp only [decide_eq_true_eq]; exact cntFr_lt Entity.id hk2 hlt
      have HK2 := hid hk2
      clear hk2 hkc hcl c0
      go_wp2_with fail
      refine wp_region_ext (by kernel_rfl) (by kernel_rfl) ?_
      repeat (go_big_quiet_step ((fail)))
      refine wpQuiet_nil ?_
      rintro w2 ⟨⟨_, x2⟩, rfl⟩
      go_wp2
      go_roundw
      case rel => exact ⟨k + 1, by go_num, HK2.out, hxr.trans x2⟩
      case measure => simp [intOf]; omega
    · have hk : k = cntFr Entity.id xs x := by omega
      have hkl : k ≤ xs.length := by omega
      have HKC := hid hk
      by_cases hlt : k < xs.length
      · have hge : ¬ xs[k].id < x.id := by
          have := cntFr_at Entity.id (xs := xs) (v := x) (by omega)
          subst hk
          exact this
        obtain ⟨b, off, A2, cap2, rfl, _, _, c0, _⟩ := (h.mono xw).ent hlt
        have z0 : ∀ z : ExtOf wr, z.1.cell? ⟨b, off + k * 2, none⟩ = _ := fun z => z.2.cell c0
        have hid1 : decide (xs[k].id < x.id) = false := by simp only [decide_eq_false_iff_not]; exact hge
        clear hk2 hkc hcl c0 hge hk
        go_wp2_with fail
        refine wp_region_ext (by kernel_rfl) (by kernel_rfl) ?_
        repeat (go_big_quiet_step ((fail)))
        refine wpQuiet_nil ?_
        rintro w2 ⟨⟨_, x2⟩, rfl⟩
        clear z0 b0
        have xq0 := hxr.trans x2
        obtain ⟨wq, hwq⟩ : ∃ wq, wq = w2 := ⟨_, rfl⟩
        rw [← hwq] at xq0 ⊢
        clear hwq x2
        have xq : Ext w wq := xb.trans xq0
        have HBQ := hid (show ∀ W, Ext wq W → W.cell? ⟨w.heap.size, 0, none⟩ = some (.int .i64 x.id) ∧ W.cell? ⟨w.heap.size, 1, none⟩ = some (.slice Am x.members.length cm) from fun W y => HBX.out _ (xq0.trans y))
        have HI := hid hI
        have HM := hid (show Sl intR wq (.slice Am x.members.length cm) x.members from hs.mono xq)
        have HTK := hid (show Sl entityR wq (.slice (some ⟨b, off, none⟩) k cap) (xs.take k) from (h.mono xq).take (by omega))
        have HL1 := hid (show ([] : List Entity).length + k ≤ 1099511627776 by simp only [List.length_nil]; omega)
        have HL2 := hid (show (xs.take k).length + 1 ≤ 1099511627776 by rw [List.length_take]; omega)
        have HXQ := hid xq
        have hcap := (h.mono xq).cap_
        obtain ⟨A2q, hA2, HTD⟩ : ∃ A2, (if cap = k then (some ⟨b, off, none⟩ : Option Addr) else some ⟨b, off + k * 2, none⟩) = A2 ∧ Hid (Sl entityR wq (.slice A2 (xs.length - k) (cap - k)) (xs.drop k)) := by
          refine ⟨_, rfl, hid ?_⟩
          rw [if_neg (by omega)]
          exact Sl.dropG (h.mono xq) k hkl
        have HL3 := hid (show (xs.take k ++ [x]).length + (xs.length - k) ≤ 1099511627776 by simp only [List.length_append, List.length_take, List.length_cons, List.length_nil]; omega)
        have a1 : k ≤ cap := by omega
        have a2 : (k : Int) ≤ (xs.length : Int) := by omega
        have a3 : (k : Int) ≤ (cap : Int) := by omega
        clear hcap hid1 xq hxr xw hI
        go_wp2_with fail
        have HOWN := hid (fun W : World => (show (atO entityR wq).own W (#[.int .i64 x.id, .slice Am x.members.length cm] : Array Value).toList x [] from ⟨⟨_, rfl, HI.out, HM.out⟩, rfl⟩))
        have HE1 := hid (show (wq.alloc (.cells #[] 42)).heap[wq.heap.size]? = some (.cells #[] 42 (0, 0)) from heap_alloc_new wq _)
        have HE2 := hid (show ((wq.alloc (.cells #[] 42)).alloc (.cells #[.int .i64 x.id, .slice Am x.members.length cm] 42)).heap[wq.heap.size]? = some (.cells #[] 42 (0, 0)) from (((Ext.refl (wq.alloc (.cells #[] 42))).alloc _).block (by simp)).trans (heap_alloc_new wq _))
        have HV2 := hid (show ((wq.alloc (.cells #[] 42)).alloc (.cells #[.int .i64 x.id, .slice Am x.members.length cm] 42)).heap[wq.heap.size + 1]? = some (.cells #[.int .i64 x.id, .slice Am x.members.length cm] 42 (0, 0)) from by have := heap_alloc_new (wq.alloc (.cells #[] 42)) (.cells #[.int .i64 x.id, .slice Am x.members.length cm] 42); rwa [World.size_alloc] at this)
        have HE3 := hid (show ((wq.alloc (.cells #[.int .i64 x.id, .slice Am x.members.length cm] 42)).alloc (.cells #[] 42)).heap[wq.heap.size + 1]? = some (.cells #[] 42 (0, 0)) from by have := heap_alloc_new (wq.alloc (.cells #[.int .i64 x.id, .slice Am x.members.length cm] 42)) (.cells #[] 42); rwa [World.size_alloc] at this)
        have HV3 := hid (show ((wq.alloc (.cells #[.int .i64 x.id, .slice Am x.members.length cm] 42)).alloc (.cells #[] 42)).heap[wq.heap.size]? = some (.cells #[.int .i64 x.id, .slice Am x.members.length cm] 42 (0, 0)) from (((Ext.refl (wq.alloc (.cells #[.int .i64 x.id, .slice Am x.members.length cm] 42))).alloc _).block (by simp)).trans (heap_alloc_new wq _))
        go_region_held3 (fun w' => w'.cell? ⟨w.heap.size, 0, none⟩ = some (.int .i64 x.id) ∧ w'.cell? ⟨w.heap.size, 1, none⟩ = some (.slice Am x.members.length cm)) (exact HBQ.out _ (by repeat (first | with_reducible exact Ext.refl _ | with_reducible assumption | with_reducible refine Ext.drew ?_ | with_reducible refine Ext.alloc ?_ _ | with_reducible refine Ext.trans ?_ (by with_reducible assumption)))) (first | (have hsecond := hB2; refine step_appS (R := entityR) (by decide) elemEnt (by decide) ent_one rfl _ _ rfl hB2 rfl rfl HTD.out (by repeat (first | with_reducible exact Ext.refl _ | with_reducible assumption | with_reducible refine Ext.drew ?_ | with_reducible refine Ext.alloc ?_ _ | with_reducible refine Ext.trans ?_ (by with_reducible assumption))) HL3.out xs2.size (w0 := wq) (Nat.le_refl _) xs2 ?_; intro v6 w6 hB3 xs3 _) | (refine step_app1 (R := atO entityR wq) elemEnt (show 0 < entityR.n by decide) rfl _ _ rfl (hB1.ext ((Ext.refl w4).alloc (.cells #[.int .i64 x.id, .slice Am x.members.length cm] 42))) rfl w4.heap.size 1 rfl (heap_alloc_new w4 _) (one_ent _ _ _ _) (y := x) (HOWN.out _) fresh_nil HL2.out (by decide) (by rw [World.size_alloc]; have := xs1.size; omega) (w0 := wq) (Nat.le_refl _) (by repeat (first | with_reducible exact Ext.refl _ | with_reducible assumption | with_reducible refine Ext.drew ?_ | with_reducible refine Ext.alloc ?_ _ | with_reducible refine Ext.trans ?_ (by with_reducible assumption))) ?_; intro v5 w5 hB2 xs2) | (refine step_app1 (R := atO entityR wq) elemEnt (show 0 < entityR.n by decide) rfl _ _ rfl (hB1) rfl (wq.heap.size + 1) 1 rfl ((hk1 _ (by simp <;> omega) (by simp [Value.ownBlock])).trans HV2.out) (one_ent _ _ _ _) (y := x) (HOWN.out _) fresh_nil HL2.out (by decide) xs1.size (w0 := wq) (Nat.le_refl _) (by repeat (first | with_reducible exact Ext.refl _ | with_reducible assumption | with_reducible refine Ext.drew ?_ | with_reducible refine Ext.alloc ?_ _ | with_reducible refine Ext.trans ?_ (by with_reducible assumption))) ?_; intro v5 w5 hB2 xs2) | (refine step_app1 (R := atO entityR wq) elemEnt (show 0 < entityR.n by decide) rfl _ _ rfl (hB1) rfl wq.heap.size 1 rfl ((hk1 _ (by simp <;> omega) (by simp [Value.ownBlock])).trans HV3.out) (one_ent _ _ _ _) (y := x) (HOWN.out _) fresh_nil HL2.out (by decide) xs1.size (w0 := wq) (Nat.le_refl _) (by repeat (first | with_reducible exact Ext.refl _ | with_reducible assumption | with_reducible refine Ext.drew ?_ | with_reducible refine Ext.alloc ?_ _ | with_reducible refine Ext.trans ?_ (by with_reducible assumption))) ?_; intro v5 w5 hB2 xs2) | (refine step_appS (R := entityR) (by decide) elemEnt (by decide) ent_one rfl _ _ rfl (Bld.empG (R := atO entityR wq) (base := wq.heap.size) (Nat.le_refl _) HE1.out) rfl rfl HTK.out (by repeat (first | with_reducible exact Ext.refl _ | with_reducible assumption | with_reducible refine Ext.drew ?_ | with_reducible refine Ext.alloc ?_ _ | with_reducible refine Ext.trans ?_ (by with_reducible assumption))) HL1.out (by simp <;> omega) (w0 := wq) (Nat.le_refl _) (by repeat (first | with_reducible exact Ext.refl _ | with_reducible assumption | with_reducible refine Ext.drew ?_ | with_reducible refine Ext.alloc ?_ _ | with_reducible refine Ext.trans ?_ (by with_reducible assumption))) ?_; intro v4 w4 hB1 xs1 hk1; rw [List.nil_append] at hB1) | (refine step_appS (R := entityR) (by decide) elemEnt (by decide) ent_one rfl _ _ rfl (Bld.empG (R := atO entityR wq) (base := wq.heap.size) (Nat.le_refl _) HE2.out) rfl rfl HTK.out (by repeat (first | with_reducible exact Ext.refl _ | with_reducible assumption | with_reducible refine Ext.drew ?_ | with_reducible refine Ext.alloc ?_ _ | with_reducible refine Ext.trans ?_ (by with_reducible assumption))) HL1.out (by simp <;> omega) (w0 := wq) (Nat.le_refl _) (by repeat (first | with_reducible exact Ext.refl _ | with_reducible assumption | with_reducible refine Ext.drew ?_ | with_reducible refine Ext.alloc ?_ _ | with_reducible refine Ext.trans ?_ (by with_reducible assumption))) ?_; intro v4 w4 hB1 xs1 hk1; rw [List.nil_append] at hB1) | (refine step_appS (R := entityR) (by decide) elemEnt (by decide) ent_one rfl _ _ rfl (Bld.empG (R := atO entityR wq) (base := wq.heap.size) (Nat.le_succ _) HE3.out) rfl rfl HTK.out (by repeat (first | with_reducible exact Ext.refl _ | with_reducible assumption | with_reducible refine Ext.drew ?_ | with_reducible refine Ext.alloc ?_ _ | with_reducible refine Ext.trans ?_ (by with_reducible assumption))) HL1.out (by simp <;> omega) (w0 := wq) (Nat.le_refl _) (by repeat (first | with_reducible exact Ext.refl _ | with_reducible assumption | with_reducible refine Ext.drew ?_ | with_reducible refine Ext.alloc ?_ _ | with_reducible refine Ext.trans ?_ (by with_reducible assumption))) ?_; intro v4 w4 hB1 xs1 hk1; rw [List.nil_append] at hB1))
        all_goals
          have hE3 := Sl.of_at hB3.sl (by exact xs3)
          clear hB3
          go_wp2
          go_ret
          exact ⟨v6, rfl, by unfold insFr; rw [← HKC.out]; simpa using hE3, HXQ.out.trans xs3⟩
      · have hkl2 : k = xs.length := by omega
        subst hkl2
        clear hk2 hkc hcl hk
        go_wp2_with fail
        refine wp_region_ext (by kernel_rfl) (by kernel_rfl) ?_
        repeat (go_big_quiet_step ((fail)))
        refine wpQuiet_nil ?_
        rintro w2 ⟨⟨_, x2⟩, rfl⟩
        clear b0
        have xq0 := hxr.trans x2
        obtain ⟨wq, hwq⟩ : ∃ wq, wq = w2 := ⟨_, rfl⟩
        rw [← hwq] at xq0 ⊢
        clear hwq x2
        have xq : Ext w wq := xb.trans xq0
        have HBQ := hid (show ∀ W, Ext wq W → W.cell? ⟨w.heap.size, 0, none⟩ = some (.int .i64 x.id) ∧ W.cell? ⟨w.heap.size, 1, none⟩ = some (.slice Am x.members.length cm) from fun W y => HBX.out _ (xq0.trans y))
        have HI := hid hI
        have HM := hid (show Sl intR wq (.slice Am x.members.length cm) x.members from hs.mono xq)
        have HTK := hid (show Sl entityR wq (.slice A xs.length cap) (xs.take xs.length) from (h.mono xq).take (by omega))
        have HL1 := hid (show ([] : List Entity).length + xs.length ≤ 1099511627776 by simp only [List.length_nil]; omega)
        have HL2 := hid (show (xs.take xs.length).length + 1 ≤ 1099511627776 by rw [List.length_take]; omega)
        have HXQ := hid xq
        have hcap := (h.mono xq).cap_
        have HCAP := hid hcap.2.2
        have HTD := hid (fun (A' : Option Addr) (c' : Nat) (hc : c' ≤ 9223372036854775807) => (⟨_, _, rfl, ⟨Nat.zero_le _, by unfold maxLen; omega⟩, fun i hi => absurd hi (Nat.not_lt_zero _)⟩ : Sl entityR wq (.slice A' 0 c') []))
        have HL3 := hid (show (xs.take xs.length ++ [x]).length + 0 ≤ 1099511627776 by simp only [List.length_append, List.length_take, List.length_cons, List.length_nil]; omega)
        have a1 : xs.length ≤ cap := by omega
        have a3 : (xs.length : Int) ≤ (cap : Int) := by omega
        clear hcap xq hxr xw hI hlt
        by_cases hcp : cap = xs.length
        · subst hcp
          go_wp2_with fail
          have HOWN := hid (fun W : World => (show (atO entityR wq).own W (#[.int .i64 x.id, .slice Am x.members.length cm] : Array Value).toList x [] from ⟨⟨_, rfl, HI.out, HM.out⟩, rfl⟩))
          have HE1 := hid (show (wq.alloc (.cells #[] 42)).heap[wq.heap.size]? = some (.cells #[] 42 (0, 0)) from heap_alloc_new wq _)
          have HE2 := hid (show ((wq.alloc (.cells #[] 42)).alloc (.cells #[.int .i64 x.id, .slice Am x.members.length cm] 42)).heap[wq.heap.size]? = some (.cells #[] 42 (0, 0)) from (((Ext.refl (wq.alloc (.cells #[] 42))).alloc _).block (by simp)).trans (heap_alloc_new wq _))
          have HV2 := hid (show ((wq.alloc (.cells #[] 42)).alloc (.cells #[.int .i64 x.id, .slice Am x.members.length cm] 42)).heap[wq.heap.size + 1]? = some (.cells #[.int .i64 x.id, .slice Am x.members.length cm] 42 (0, 0)) from by have := heap_alloc_new (wq.alloc (.cells #[] 42)) (.cells #[.int .i64 x.id, .slice Am x.members.length cm] 42); rwa [World.size_alloc] at this)
          have HE3 := hid (show ((wq.alloc (.cells #[.int .i64 x.id, .slice Am x.members.length cm] 42)).alloc (.cells #[] 42)).heap[wq.heap.size + 1]? = some (.cells #[] 42 (0, 0)) from by have := heap_alloc_new (wq.alloc (.cells #[.int .i64 x.id, .slice Am x.members.length cm] 42)) (.cells #[] 42); rwa [World.size_alloc] at this)
          have HV3 := hid (show ((wq.alloc (.cells #[.int .i64 x.id, .slice Am x.members.length cm] 42)).alloc (.cells #[] 42)).heap[wq.heap.size]? = some (.cells #[.int .i64 x.id, .slice Am x.members.length cm] 42 (0, 0)) from (((Ext.refl (wq.alloc (.cells #[.int .i64 x.id, .slice Am x.members.length cm] 42))).alloc _).block (by simp)).trans (heap_alloc_new wq _))
          go_region_held3 (fun w' => w'.cell? ⟨w.heap.size, 0, none⟩ = some (.int .i64 x.id) ∧ w'.cell? ⟨w.heap.size, 1, none⟩ = some (.slice Am x.members.length cm)) (exact HBQ.out _ (by repeat (first | with_reducible exact Ext.refl _ | with_reducible assumption | with_reducible refine Ext.drew ?_ | with_reducible refine Ext.alloc ?_ _ | with_reducible refine Ext.trans ?_ (by with_reducible assumption)))) (first | (have hsecond := hB2; refine step_appS (R := entityR) (by decide) elemEnt (by decide) ent_one rfl _ _ rfl hB2 rfl rfl (HTD.out _ _ (by first | decide | (have := HCAP.out; omega))) (by repeat (first | with_reducible exact Ext.refl _ | with_reducible assumption | with_reducible refine Ext.drew ?_ | with_reducible refine Ext.alloc ?_ _ | with_reducible refine Ext.trans ?_ (by with_reducible assumption))) HL3.out xs2.size (w0 := wq) (Nat.le_refl _) xs2 ?_; intro v6 w6 hB3 xs3 _) | (refine step_app1 (R := atO entityR wq) elemEnt (show 0 < entityR.n by decide) rfl _ _ rfl (hB1.ext ((Ext.refl w4).alloc (.cells #[.int .i64 x.id, .slice Am x.members.length cm] 42))) rfl w4.heap.size 1 rfl (heap_alloc_new w4 _) (one_ent _ _ _ _) (y := x) (HOWN.out _) fresh_nil HL2.out (by decide) (by rw [World.size_alloc]; have := xs1.size; omega) (w0 := wq) (Nat.le_refl _) (by repeat (first | with_reducible exact Ext.refl _ | with_reducible assumption | with_reducible refine Ext.drew ?_ | with_reducible refine Ext.alloc ?_ _ | with_reducible refine Ext.trans ?_ (by with_reducible assumption))) ?_; intro v5 w5 hB2 xs2) | (refine step_app1 (R := atO entityR wq) elemEnt (show 0 < entityR.n by decide) rfl _ _ rfl (hB1) rfl (wq.heap.size + 1) 1 rfl ((hk1 _ (by simp <;> omega) (by simp [Value.ownBlock])).trans HV2.out) (one_ent _ _ _ _) (y := x) (HOWN.out _) fresh_nil HL2.out (by decide) xs1.size (w0 := wq) (Nat.le_refl _) (by repeat (first | with_reducible exact Ext.refl _ | with_reducible assumption | with_reducible refine Ext.drew ?_ | with_reducible refine Ext.alloc ?_ _ | with_reducible refine Ext.trans ?_ (by with_reducible assumption))) ?_; intro v5 w5 hB2 xs2) | (refine step_app1 (R := atO entityR wq) elemEnt (show 0 < entityR.n by decide) rfl _ _ rfl (hB1) rfl wq.heap.size 1 rfl ((hk1 _ (by simp <;> omega) (by simp [Value.ownBlock])).trans HV3.out) (one_ent _ _ _ _) (y := x) (HOWN.out _) fresh_nil HL2.out (by decide) xs1.size (w0 := wq) (Nat.le_refl _) (by repeat (first | with_reducible exact Ext.refl _ | with_reducible assumption | with_reducible refine Ext.drew ?_ | with_reducible refine Ext.alloc ?_ _ | with_reducible refine Ext.trans ?_ (by with_reducible assumption))) ?_; intro v5 w5 hB2 xs2) | (refine step_appS (R := entityR) (by decide) elemEnt (by decide) ent_one rfl _ _ rfl (Bld.empG (R := atO entityR wq) (base := wq.heap.size) (Nat.le_refl _) HE1.out) rfl rfl HTK.out (by repeat (first | with_reducible exact Ext.refl _ | with_reducible assumption | with_reducible refine Ext.drew ?_ | with_reducible refine Ext.alloc ?_ _ | with_reducible refine Ext.trans ?_ (by with_reducible assumption))) HL1.out (by simp <;> omega) (w0 := wq) (Nat.le_refl _) (by repeat (first | with_reducible exact Ext.refl _ | with_reducible assumption | with_reducible refine Ext.drew ?_ | with_reducible refine Ext.alloc ?_ _ | with_reducible refine Ext.trans ?_ (by with_reducible assumption))) ?_; intro v4 w4 hB1 xs1 hk1; rw [List.nil_append] at hB1) | (refine step_appS (R := entityR) (by decide) elemEnt (by decide) ent_one rfl _ _ rfl (Bld.empG (R := atO entityR wq) (base := wq.heap.size) (Nat.le_refl _) HE2.out) rfl rfl HTK.out (by repeat (first | with_reducible exact Ext.refl _ | with_reducible assumption | with_reducible refine Ext.drew ?_ | with_reducible refine Ext.alloc ?_ _ | with_reducible refine Ext.trans ?_ (by with_reducible assumption))) HL1.out (by simp <;> omega) (w0 := wq) (Nat.le_refl _) (by repeat (first | with_reducible exact Ext.refl _ | with_reducible assumption | with_reducible refine Ext.drew ?_ | with_reducible refine Ext.alloc ?_ _ | with_reducible refine Ext.trans ?_ (by with_reducible assumption))) ?_; intro v4 w4 hB1 xs1 hk1; rw [List.nil_append] at hB1) | (refine step_appS (R := entityR) (by decide) elemEnt (by decide) ent_one rfl _ _ rfl (Bld.empG (R := atO entityR wq) (base := wq.heap.size) (Nat.le_succ _) HE3.out) rfl rfl HTK.out (by repeat (first | with_reducible exact Ext.refl _ | with_reducible assumption | with_reducible refine Ext.drew ?_ | with_reducible refine Ext.alloc ?_ _ | with_reducible refine Ext.trans ?_ (by with_reducible assumption))) HL1.out (by simp <;> omega) (w0 := wq) (Nat.le_refl _) (by repeat (first | with_reducible exact Ext.refl _ | with_reducible assumption | with_reducible refine Ext.drew ?_ | with_reducible refine Ext.alloc ?_ _ | with_reducible refine Ext.trans ?_ (by with_reducible assumption))) ?_; intro v4 w4 hB1 xs1 hk1; rw [List.nil_append] at hB1))
          all_goals
            have hE3 := Sl.of_at hB3.sl (by exact xs3)
            clear hB3
            go_wp2
            go_ret
            exact ⟨v6, rfl, by unfold insFr; rw [← HKC.out, List.drop_length]; simpa using hE3, HXQ.out.trans xs3⟩
        · go_wp2_with fail
          have HOWN := hid (fun W : World => (show (atO entityR wq).own W (#[.int .i64 x.id, .slice Am x.members.length cm] : Array Value).toList x [] from ⟨⟨_, rfl, HI.out, HM.out⟩, rfl⟩))
          have HE1 := hid (show (wq.alloc (.cells #[] 42)).heap[wq.heap.size]? = some (.cells #[] 42 (0, 0)) from heap_alloc_new wq _)
          have HE2 := hid (show ((wq.alloc (.cells #[] 42)).alloc (.cells #[.int .i64 x.id, .slice Am x.members.length cm] 42)).heap[wq.heap.size]? = some (.cells #[] 42 (0, 0)) from (((Ext.refl (wq.alloc (.cells #[] 42))).alloc _).block (by simp)).trans (heap_alloc_new wq _))
          have HV2 := hid (show ((wq.alloc (.cells #[] 42)).alloc (.cells #[.int .i64 x.id, .slice Am x.members.length cm] 42)).heap[wq.heap.size + 1]? = some (.cells #[.int .i64 x.id, .slice Am x.members.length cm] 42 (0, 0)) from by have := heap_alloc_new (wq.alloc (.cells #[] 42)) (.cells #[.int .i64 x.id, .slice Am x.members.length cm] 42); rwa [World.size_alloc] at this)
          have HE3 := hid (show ((wq.alloc (.cells #[.int .i64 x.id, .slice Am x.members.length cm] 42)).alloc (.cells #[] 42)).heap[wq.heap.size + 1]? = some (.cells #[] 42 (0, 0)) from by have := heap_alloc_new (wq.alloc (.cells #[.int .i64 x.id, .slice Am x.members.length cm] 42)) (.cells #[] 42); rwa [World.size_alloc] at this)
          have HV3 := hid (show ((wq.alloc (.cells #[.int .i64 x.id, .slice Am x.members.length cm] 42)).alloc (.cells #[] 42)).heap[wq.heap.size]? = some (.cells #[.int .i64 x.id, .slice Am x.members.length cm] 42 (0, 0)) from (((Ext.refl (wq.alloc (.cells #[.int .i64 x.id, .slice Am x.members.length cm] 42))).alloc _).block (by simp)).trans (heap_alloc_new wq _))
          go_region_held3 (fun w' => w'.cell? ⟨w.heap.size, 0, none⟩ = some (.int .i64 x.id) ∧ w'.cell? ⟨w.heap.size, 1, none⟩ = some (.slice Am x.members.length cm)) (exact HBQ.out _ (by repeat (first | with_reducible exact Ext.refl _ | with_reducible assumption | with_reducible refine Ext.drew ?_ | with_reducible refine Ext.alloc ?_ _ | with_reducible refine Ext.trans ?_ (by with_reducible assumption)))) (first | (have hsecond := hB2; refine step_appS (R := entityR) (by decide) elemEnt (by decide) ent_one rfl _ _ rfl hB2 rfl rfl (HTD.out _ _ (by first | decide | (have := HCAP.out; omega))) (by repeat (first | with_reducible exact Ext.refl _ | with_reducible assumption | with_reducible refine Ext.drew ?_ | with_reducible refine Ext.alloc ?_ _ | with_reducible refine Ext.trans ?_ (by with_reducible assumption))) HL3.out xs2.size (w0 := wq) (Nat.le_refl _) xs2 ?_; intro v6 w6 hB3 xs3 _) | (refine step_app1 (R := atO entityR wq) elemEnt (show 0 < entityR.n by decide) rfl _ _ rfl (hB1.ext ((Ext.refl w4).alloc (.cells #[.int .i64 x.id, .slice Am x.members.length cm] 42))) rfl w4.heap.size 1 rfl (heap_alloc_new w4 _) (one_ent _ _ _ _) (y := x) (HOWN.out _) fresh_nil HL2.out (by decide) (by rw [World.size_alloc]; have := xs1.size; omega) (w0 := wq) (Nat.le_refl _) (by repeat (first | with_reducible exact Ext.refl _ | with_reducible assumption | with_reducible refine Ext.drew ?_ | with_reducible refine Ext.alloc ?_ _ | with_reducible refine Ext.trans ?_ (by with_reducible assumption))) ?_; intro v5 w5 hB2 xs2) | (refine step_app1 (R := atO entityR wq) elemEnt (show 0 < entityR.n by decide) rfl _ _ rfl (hB1) rfl (wq.heap.size + 1) 1 rfl ((hk1 _ (by simp <;> omega) (by simp [Value.ownBlock])).trans HV2.out) (one_ent _ _ _ _) (y := x) (HOWN.out _) fresh_nil HL2.out (by decide) xs1.size (w0 := wq) (Nat.le_refl _) (by repeat (first | with_reducible exact Ext.refl _ | with_reducible assumption | with_reducible refine Ext.drew ?_ | with_reducible refine Ext.alloc ?_ _ | with_reducible refine Ext.trans ?_ (by with_reducible assumption))) ?_; intro v5 w5 hB2 xs2) | (refine step_app1 (R := atO entityR wq) elemEnt (show 0 < entityR.n by decide) rfl _ _ rfl (hB1) rfl wq.heap.size 1 rfl ((hk1 _ (by simp <;> omega) (by simp [Value.ownBlock])).trans HV3.out) (one_ent _ _ _ _) (y := x) (HOWN.out _) fresh_nil HL2.out (by decide) xs1.size (w0 := wq) (Nat.le_refl _) (by repeat (first | with_reducible exact Ext.refl _ | with_reducible assumption | with_reducible refine Ext.drew ?_ | with_reducible refine Ext.alloc ?_ _ | with_reducible refine Ext.trans ?_ (by with_reducible assumption))) ?_; intro v5 w5 hB2 xs2) | (refine step_appS (R := entityR) (by decide) elemEnt (by decide) ent_one rfl _ _ rfl (Bld.empG (R := atO entityR wq) (base := wq.heap.size) (Nat.le_refl _) HE1.out) rfl rfl HTK.out (by repeat (first | with_reducible exact Ext.refl _ | with_reducible assumption | with_reducible refine Ext.drew ?_ | with_reducible refine Ext.alloc ?_ _ | with_reducible refine Ext.trans ?_ (by with_reducible assumption))) HL1.out (by simp <;> omega) (w0 := wq) (Nat.le_refl _) (by repeat (first | with_reducible exact Ext.refl _ | with_reducible assumption | with_reducible refine Ext.drew ?_ | with_reducible refine Ext.alloc ?_ _ | with_reducible refine Ext.trans ?_ (by with_reducible assumption))) ?_; intro v4 w4 hB1 xs1 hk1; rw [List.nil_append] at hB1) | (refine step_appS (R := entityR) (by decide) elemEnt (by decide) ent_one rfl _ _ rfl (Bld.empG (R := atO entityR wq) (base := wq.heap.size) (Nat.le_refl _) HE2.out) rfl rfl HTK.out (by repeat (first | with_reducible exact Ext.refl _ | with_reducible assumption | with_reducible refine Ext.drew ?_ | with_reducible refine Ext.alloc ?_ _ | with_reducible refine Ext.trans ?_ (by with_reducible assumption))) HL1.out (by simp <;> omega) (w0 := wq) (Nat.le_refl _) (by repeat (first | with_reducible exact Ext.refl _ | with_reducible assumption | with_reducible refine Ext.drew ?_ | with_reducible refine Ext.alloc ?_ _ | with_reducible refine Ext.trans ?_ (by with_reducible assumption))) ?_; intro v4 w4 hB1 xs1 hk1; rw [List.nil_append] at hB1) | (refine step_appS (R := entityR) (by decide) elemEnt (by decide) ent_one rfl _ _ rfl (Bld.empG (R := atO entityR wq) (base := wq.heap.size) (Nat.le_succ _) HE3.out) rfl rfl HTK.out (by repeat (first | with_reducible exact Ext.refl _ | with_reducible assumption | with_reducible refine Ext.drew ?_ | with_reducible refine Ext.alloc ?_ _ | with_reducible refine Ext.trans ?_ (by with_reducible assumption))) HL1.out (by simp <;> omega) (w0 := wq) (Nat.le_refl _) (by repeat (first | with_reducible exact Ext.refl _ | with_reducible assumption | with_reducible refine Ext.drew ?_ | with_reducible refine Ext.alloc ?_ _ | with_reducible refine Ext.trans ?_ (by with_reducible assumption))) ?_; intro v4 w4 hB1 xs1 hk1; rw [List.nil_append] at hB1))
          all_goals
            have hE3 := Sl.of_at hB3.sl (by exact xs3)
            clear hB3
            go_wp2
            go_ret
            exact ⟨v6, rfl, by unfold insFr; rw [← HKC.out, List.drop_length]; simpa using hE3, HXQ.out.trans xs3⟩

end Go.Proofs.Ytfcbapaojoecgab
