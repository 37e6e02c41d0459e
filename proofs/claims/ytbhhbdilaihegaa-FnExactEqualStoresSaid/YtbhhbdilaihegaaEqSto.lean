/-
  WALKS: EqualStores (both), slices.EqualFunc at records.
-/
import Derived.Test.YtbhhbdilaihegaaVerEq
import Derived.Test.YtbhhbdilaihegaaCmpR
import Derived.Test.YtbhhbdilaihegaaSto
namespace Go.Proofs.Ytbhhbdilaihegaa
open Go.RowKit

set_option maxHeartbeats 400000 in
set_option maxRecDepth 20000 in
theorem EqualFunc_rec (v u : Value) (xs ys : List Record) (fn : FuncId) (cp : Array Value) (w : World) (h : Sl recordR w v xs) (k : Sl recordR w u ys)
    (hfn : ∀ (args : Array Value) (W : World), Sem.run Try.prog (callFunc fn args) W = .ok (.enter fn args) W)
    (hf : ∀ wz a b x y, RecAt wz a x → RecAt wz b y → Calls Try.prog fn (#[a, b] ++ cp) wz fun e w2 => e = .returned (.bool (eqB x y)) ∧ Ext wz w2) :
    Calls Try.prog 95 #[v, u, .func (.func fn) #[] cp] w fun e w2 => e = .returned (.bool (eqB xs ys)) ∧ Ext w w2 := by
  obtain ⟨A, cap, rfl, hm⟩ := h.form
  obtain ⟨B, cap2, rfl, hm2⟩ := k.form
  by_cases hl : xs.length = ys.length
  · have hl' : ((xs.length : Int) != (ys.length : Int)) = false := by simp [hl]
    have HL := hid hl
    clear hl
    go_enter Try.func95, Try.ntmps95
    go_wp2
    go_loopw [17] (fun i wr => ∃ k2 : Nat, k2 ≤ xs.length ∧ i = .int .i64 k2 ∧ xs.take k2 = ys.take k2 ∧ Ext w wr) (fun i _ => xs.length - (intOf i).toNat)
    case atStart => exact ⟨0, Nat.zero_le _, rfl, by simp, Ext.refl _⟩
    case round =>
      obtain ⟨k2, hk, rfl, he, hx⟩ := hrel
      have HE := hid he
      clear he
      by_cases hlt : k2 < xs.length
      · have hlt2 : k2 < ys.length := by have := HL.out; omega
        obtain ⟨b, off, A2, cap3, rfl, hok, hi, hc0, hc1, hc2, hc3⟩ := (h.mono hx).record hlt
        obtain ⟨b2, off2, A3, cap4, rfl, hok2, hi2, hd0, hd1, hd2, hd3⟩ := (k.mono hx).record hlt2
        have xe : Ext wr (wr.alloc (.cells #[.int .i64 xs[k2].source, .int .i64 xs[k2].key, .int .i64 xs[k2].version, .slice A2 xs[k2].fields.length cap3] 76)) := (Ext.refl _).alloc _
        have y0 := xe.cell hd0
        have y1 := xe.cell hd1
        have y2 := xe.cell hd2
        have y3 := xe.cell hd3
        go_wp2_with fail
        refine (hf _ _ _ xs[k2] ys[k2] ⟨_, rfl, hok, hi.mono (by repeat (first | with_reducible exact Ext.refl _ | with_reducible assumption | with_reducible refine Ext.drew ?_ | with_reducible refine Ext.alloc ?_ _ | (refine Ext.setCell ?_ (by simp) _) | with_reducible refine Ext.trans ?_ (by with_reducible assumption)))⟩ ⟨_, rfl, hok2, hi2.mono (by repeat (first | with_reducible exact Ext.refl _ | with_reducible assumption | with_reducible refine Ext.drew ?_ | with_reducible refine Ext.alloc ?_ _ | (refine Ext.setCell ?_ (by simp) _) | with_reducible refine Ext.trans ?_ (by with_reducible assumption)))⟩).mono ?_
        rintro e w2 ⟨rfl, x2⟩
        clear xe
        by_cases h0 : xs[k2] = ys[k2]
        · rw [eqB_true h0]
          have H0 := hid h0
          clear h0
          go_wp2
          go_roundw
          case rel => exact ⟨k2 + 1, by omega, by go_num, take_snoc_eq hlt hlt2 H0.out HE.out, (by repeat (first | with_reducible exact Ext.refl _ | with_reducible assumption | with_reducible refine Ext.drew ?_ | with_reducible refine Ext.alloc ?_ _ | with_reducible refine Ext.trans ?_ (by with_reducible assumption)))⟩
          case measure => simp [intOf]; omega
        · rw [eqB_false h0]
          have H0 := hid h0
          clear h0
          go_wp2
          go_ret
          exact ⟨ret_bool (eqB_false (ne_of_at hlt hlt2 H0.out)).symm, (by repeat (first | with_reducible exact Ext.refl _ | with_reducible assumption | with_reducible refine Ext.drew ?_ | with_reducible refine Ext.alloc ?_ _ | with_reducible refine Ext.trans ?_ (by with_reducible assumption)))⟩
      · go_wp2
        go_ret
        exact ⟨ret_bool (eqB_true (eq_of_take hlt HL.out HE.out)).symm, hx⟩
  · have hl' : ((xs.length : Int) != (ys.length : Int)) = true := by simp; omega
    go_enter Try.func95, Try.ntmps95
    go_wp2
    go_ret
    exact ⟨ret_bool (eqB_false fun e => hl (by rw [e])).symm, Ext.refl _⟩

set_option maxHeartbeats 400000 in
set_option maxRecDepth 20000 in
theorem impl_EqualStores (v u : Value) (x y : Store) (w : World) (h : StoAt w v x) (k : StoAt w u y) :
    Calls Try.prog 49 #[v, u] w fun e w2 => e = .returned (.bool (eqB x y)) ∧ Ext w w2 := by
  obtain ⟨r, d, rfl, hI, hr, hd⟩ := h
  obtain ⟨r', d', rfl, hI', hr', hd'⟩ := k
  by_cases h1 : x.version = y.version
  · have b1 : (x.version == y.version) = true := by simp [h1]
    have H := hid h1
    clear h1
    go_enter Try.func49, Try.ntmps49
    go_wp2_with fail
    refine (EqualFunc_rec _ _ x.records y.records 92 #[] _ (hr.mono (by repeat (first | with_reducible exact Ext.refl _ | with_reducible assumption | with_reducible refine Ext.drew ?_ | with_reducible refine Ext.alloc ?_ _ | (refine Ext.setCell ?_ (by simp) _) | with_reducible refine Ext.trans ?_ (by with_reducible assumption)))) (hr'.mono (by repeat (first | with_reducible exact Ext.refl _ | with_reducible assumption | with_reducible refine Ext.drew ?_ | with_reducible refine Ext.alloc ?_ _ | (refine Ext.setCell ?_ (by simp) _) | with_reducible refine Ext.trans ?_ (by with_reducible assumption)))) (fun _ _ => by kernel_rfl) (fun wz a b x y hx hy => impl_equalRecords a b x y wz hx hy)).mono ?_
    rintro e w2 ⟨rfl, x2⟩
    have c1 := x2.box1.1
    have c0 := ((((Ext.refl _).alloc _) : Ext (w.alloc (.cells #[.int .i64 x.version, r, d] 54)) _).trans x2).box.1
    by_cases h4 : x.records = y.records
    · rw [eqB_true h4]
      have H4 := hid h4
      clear h4
      go_wp2_with fail
      refine (slices_Equal_v _ _ x.verdicts y.verdicts _ (hd.mono (by repeat (first | with_reducible exact Ext.refl _ | with_reducible assumption | with_reducible refine Ext.drew ?_ | with_reducible refine Ext.alloc ?_ _ | (refine Ext.setCell ?_ (by simp) _) | with_reducible refine Ext.trans ?_ (by with_reducible assumption)))) (hd'.mono (by repeat (first | with_reducible exact Ext.refl _ | with_reducible assumption | with_reducible refine Ext.drew ?_ | with_reducible refine Ext.alloc ?_ _ | (refine Ext.setCell ?_ (by simp) _) | with_reducible refine Ext.trans ?_ (by with_reducible assumption))))).mono ?_
      rintro e w3 ⟨rfl, x3⟩
      by_cases h5 : x.verdicts = y.verdicts
      · rw [eqB_true h5]
        have H5 := hid h5
        clear h5
        go_wp2
        go_ret
        exact ⟨ret_bool (eqB_true ((Store.eta x y).2 ⟨H.out, H4.out, H5.out⟩)).symm, (by repeat (first | with_reducible exact Ext.refl _ | with_reducible assumption | with_reducible refine Ext.drew ?_ | with_reducible refine Ext.alloc ?_ _ | (refine Ext.setCell ?_ (by simp) _) | with_reducible refine Ext.trans ?_ (by with_reducible assumption)))⟩
      · rw [eqB_false h5]
        have H5 := hid h5
        clear h5
        go_wp2
        go_ret
        exact ⟨ret_bool (eqB_false fun e => H5.out (by rw [e])).symm, (by repeat (first | with_reducible exact Ext.refl _ | with_reducible assumption | with_reducible refine Ext.drew ?_ | with_reducible refine Ext.alloc ?_ _ | (refine Ext.setCell ?_ (by simp) _) | with_reducible refine Ext.trans ?_ (by with_reducible assumption)))⟩
    · rw [eqB_false h4]
      have H4 := hid h4
      clear h4
      go_wp2
      go_ret
      exact ⟨ret_bool (eqB_false fun e => H4.out (by rw [e])).symm, (by repeat (first | with_reducible exact Ext.refl _ | with_reducible assumption | with_reducible refine Ext.drew ?_ | with_reducible refine Ext.alloc ?_ _ | (refine Ext.setCell ?_ (by simp) _) | with_reducible refine Ext.trans ?_ (by with_reducible assumption)))⟩
  · have b1 : (x.version == y.version) = false := by simp [h1]
    have H := hid h1
    clear h1
    go_enter Try.func49, Try.ntmps49
    go_wp2
    go_ret
    exact ⟨ret_bool (eqB_false fun e => H.out (by rw [e])).symm, (by repeat (first | with_reducible exact Ext.refl _ | with_reducible assumption | with_reducible refine Ext.drew ?_ | with_reducible refine Ext.alloc ?_ _ | (refine Ext.setCell ?_ (by simp) _) | with_reducible refine Ext.trans ?_ (by with_reducible assumption)))⟩

set_option maxHeartbeats 400000 in
set_option maxRecDepth 20000 in
theorem spec_EqualStores (v u : Value) (x y : Store) (w : World) (h : StoAt w v x) (k : StoAt w u y) :
    Calls Try.prog 48 #[v, u] w fun e w2 => e = .returned (.bool (eqB x y)) ∧ Ext w w2 := by
  obtain ⟨r, d, rfl, hI, hr, hd⟩ := h
  obtain ⟨r', d', rfl, hI', hr', hd'⟩ := k
  obtain ⟨A, cap, rfl, hm⟩ := hr.form
  obtain ⟨B, cap2, rfl, hm2⟩ := hr'.form
  obtain ⟨C, cap3, rfl, hm3⟩ := hd.form
  obtain ⟨D, cap4, rfl, hm4⟩ := hd'.form
  have hS : ∀ W, Ext ((w.alloc (.cells #[.int .i64 x.version, .slice A x.records.length cap, .slice C x.verdicts.length cap3] 54)).alloc (.cells #[.int .i64 y.version, .slice B y.records.length cap2, .slice D y.verdicts.length cap4] 54)) W →
      W.cell? ⟨w.heap.size, 1, none⟩ = some (.slice A x.records.length cap) ∧ W.cell? ⟨w.heap.size + 1, 1, none⟩ = some (.slice B y.records.length cap2) ∧ W.cell? ⟨w.heap.size, 2, none⟩ = some (.slice C x.verdicts.length cap3) ∧ W.cell? ⟨w.heap.size + 1, 2, none⟩ = some (.slice D y.verdicts.length cap4) :=
    fun W z => ⟨(((Ext.refl _).alloc _).trans z).box.1 1, z.box1.1 1, (((Ext.refl _).alloc _).trans z).box.1 2, z.box1.1 2⟩
  have HK := hid hS
  clear hS
  by_cases h1 : x.version = y.version
  · have b1 : (x.version != y.version) = false := by simp [h1]
    have H1 := hid h1
    clear h1
    by_cases h2 : x.records.length = y.records.length
    · have b2 : ((x.records.length : Int) != (y.records.length : Int)) = false := by simp [h2]
      have H2 := hid h2
      clear h2
      by_cases h3 : x.verdicts.length = y.verdicts.length
      · have b3 : ((x.verdicts.length : Int) != (y.verdicts.length : Int)) = false := by simp [h3]
        have H3 := hid h3
        clear h3
        go_enter Try.func48, Try.ntmps48
        go_wp2_with fail
        go_loopw [5] (fun i wr => ∃ k : Nat, k ≤ x.records.length ∧ i = .int .i64 k ∧ x.records.take k = y.records.take k ∧ Ext ((w.alloc (.cells #[.int .i64 x.version, .slice A x.records.length cap, .slice C x.verdicts.length cap3] 54)).alloc (.cells #[.int .i64 y.version, .slice B y.records.length cap2, .slice D y.verdicts.length cap4] 54)) wr) (fun i _ => x.records.length - (intOf i).toNat)
        case atStart => exact ⟨0, Nat.zero_le _, rfl, by simp, Ext.refl _⟩
        case round =>
          obtain ⟨k, hk, rfl, he, hx⟩ := hrel
          have HE := hid he
          clear he
          obtain ⟨k1, k2, k3, k4⟩ := HK.out _ hx
          have xw : Ext w wr := ((Ext.refl _).alloc _ |>.alloc _).trans hx
          by_cases hlt : k < x.records.length
          · have hlt2 : k < y.records.length := by have := H2.out; omega
            obtain ⟨b, off, A2, cp, rfl, hok, hi, hc0, hc1, hc2, hc3⟩ := (hr.mono xw).record hlt
            obtain ⟨b2, off2, A3, cp2, rfl, hok2, hi2, hd0, hd1, hd2, hd3⟩ := (hr'.mono xw).record hlt2
            have y0 : ∀ z : ExtOf wr, z.1.cell? ⟨b, off + k * 4, none⟩ = _ := fun z => z.2.cell hc0
            have y1 : ∀ z : ExtOf wr, z.1.cell? ⟨b, off + k * 4 + 1, none⟩ = _ := fun z => z.2.cell hc1
            have y2 : ∀ z : ExtOf wr, z.1.cell? ⟨b, off + k * 4 + 2, none⟩ = _ := fun z => z.2.cell hc2
            have y3 : ∀ z : ExtOf wr, z.1.cell? ⟨b, off + k * 4 + 3, none⟩ = _ := fun z => z.2.cell hc3
            have z0 : ∀ z : ExtOf wr, z.1.cell? ⟨b2, off2 + k * 4, none⟩ = _ := fun z => z.2.cell hd0
            have z1 : ∀ z : ExtOf wr, z.1.cell? ⟨b2, off2 + k * 4 + 1, none⟩ = _ := fun z => z.2.cell hd1
            have z2 : ∀ z : ExtOf wr, z.1.cell? ⟨b2, off2 + k * 4 + 2, none⟩ = _ := fun z => z.2.cell hd2
            have z3 : ∀ z : ExtOf wr, z.1.cell? ⟨b2, off2 + k * 4 + 3, none⟩ = _ := fun z => z.2.cell hd3
            have z4 : ∀ z : ExtOf wr, z.1.cell? ⟨w.heap.size, 1, none⟩ = _ := fun z => z.2.cell k1
            have z5 : ∀ z : ExtOf wr, z.1.cell? ⟨w.heap.size + 1, 1, none⟩ = _ := fun z => z.2.cell k2
            have h64 := (cmpR_64 x.records[k] y.records[k]).out
            by_cases h0 : cmpR x.records[k] y.records[k] = 0
            · have H0 := hid h0
              have h0' : (cmpR x.records[k] y.records[k] != 0) = false := by simp [h0]
              clear h0
              go_wp2_with fail
              refine wp_region_ext (by kernel_rfl) (by kernel_rfl) ?_
              repeat (go_big_quiet_step ((first | (go_at_call 94; exact quiet_ext ((spec_CompareRecords _ _ x.records[k] y.records[k] _ ⟨_, rfl, hok, hi.mono (Subtype.property _)⟩ ⟨_, rfl, hok2, hi2.mono (Subtype.property _)⟩))))))
              refine wpQuiet_nil ?_
              rintro w4 ⟨⟨_, x4⟩, rfl⟩
              go_wp2
              go_roundw
              case rel => exact ⟨k + 1, by omega, by go_num, take_snoc_eq hlt hlt2 (cmpR_zero.1 H0.out) HE.out, hx.trans x4⟩
              case measure => simp [intOf]; omega
            · have H0 := hid h0
              have h0' : (cmpR x.records[k] y.records[k] != 0) = true := by simp [h0]
              clear h0
              go_wp2_with fail
              refine wp_region_ext (by kernel_rfl) (by kernel_rfl) ?_
              repeat (go_big_quiet_step ((first | (go_at_call 94; exact quiet_ext ((spec_CompareRecords _ _ x.records[k] y.records[k] _ ⟨_, rfl, hok, hi.mono (Subtype.property _)⟩ ⟨_, rfl, hok2, hi2.mono (Subtype.property _)⟩))))))
              refine wpQuiet_nil ?_
              rintro w4 ⟨⟨_, x4⟩, rfl⟩
              go_wp2
              go_ret
              exact ⟨ret_bool (eqB_false fun e => H0.out (cmpR_zero.2 (by subst e; rfl))).symm, xw.trans x4⟩
          · have HR := hid (eq_of_take hlt H2.out HE.out)
            go_wp2_with fail
            go_loopw [6] (fun i wr => ∃ k : Nat, k ≤ x.verdicts.length ∧ i = .int .i64 k ∧ x.verdicts.take k = y.verdicts.take k ∧ Ext ((w.alloc (.cells #[.int .i64 x.version, .slice A x.records.length cap, .slice C x.verdicts.length cap3] 54)).alloc (.cells #[.int .i64 y.version, .slice B y.records.length cap2, .slice D y.verdicts.length cap4] 54)) wr) (fun i _ => x.verdicts.length - (intOf i).toNat)
            case atStart => exact ⟨0, Nat.zero_le _, rfl, by simp, hx⟩
            case round =>
              clear k1 k2 k3 k4 xw hx hk hlt
              obtain ⟨k, hk, rfl, he, hx⟩ := hrel
              have HE2 := hid he
              clear he
              obtain ⟨k1, k2, k3, k4⟩ := HK.out _ hx
              have xw : Ext w wr := ((Ext.refl _).alloc _ |>.alloc _).trans hx
              by_cases hlt : k < x.verdicts.length
              · have hlt2 : k < y.verdicts.length := by have := H3.out; omega
                obtain ⟨b, off, rfl, hok, hc0, hc1, hc2, hc3⟩ := (hd.mono xw).verdict hlt
                obtain ⟨b2, off2, rfl, hok2, hd0, hd1, hd2, hd3⟩ := (hd'.mono xw).verdict hlt2
                clear hok hok2
                have y0 : ∀ z : ExtOf wr, z.1.cell? ⟨b, off + k * 4, none⟩ = _ := fun z => z.2.cell hc0
                have y1 : ∀ z : ExtOf wr, z.1.cell? ⟨b, off + k * 4 + 1, none⟩ = _ := fun z => z.2.cell hc1
                have y2 : ∀ z : ExtOf wr, z.1.cell? ⟨b, off + k * 4 + 2, none⟩ = _ := fun z => z.2.cell hc2
                have y3 : ∀ z : ExtOf wr, z.1.cell? ⟨b, off + k * 4 + 3, none⟩ = _ := fun z => z.2.cell hc3
                have z0 : ∀ z : ExtOf wr, z.1.cell? ⟨b2, off2 + k * 4, none⟩ = _ := fun z => z.2.cell hd0
                have z1 : ∀ z : ExtOf wr, z.1.cell? ⟨b2, off2 + k * 4 + 1, none⟩ = _ := fun z => z.2.cell hd1
                have z2 : ∀ z : ExtOf wr, z.1.cell? ⟨b2, off2 + k * 4 + 2, none⟩ = _ := fun z => z.2.cell hd2
                have z3 : ∀ z : ExtOf wr, z.1.cell? ⟨b2, off2 + k * 4 + 3, none⟩ = _ := fun z => z.2.cell hd3
                have z4 : ∀ z : ExtOf wr, z.1.cell? ⟨w.heap.size, 2, none⟩ = _ := fun z => z.2.cell k3
                have z5 : ∀ z : ExtOf wr, z.1.cell? ⟨w.heap.size + 1, 2, none⟩ = _ := fun z => z.2.cell k4
                rcases ver_cases x.verdicts[k] y.verdicts[k] with ⟨he, e1, e2, e3, e4⟩ | ⟨hne, hw⟩
                · have H0 := hid he
                  clear he
                  go_wp2_with fail
                  refine wp_region_ext (by kernel_rfl) (by kernel_rfl) ?_
                  repeat (go_big_quiet_step ((fail)))
                  refine wpQuiet_nil ?_
                  rintro w4 ⟨⟨_, x4⟩, rfl⟩
                  go_wp2
                  go_roundw
                  case rel => exact ⟨k + 1, by omega, by go_num, take_snoc_eq hlt hlt2 H0.out HE2.out, hx.trans x4⟩
                  case measure => simp [intOf]; omega
                · have H0 := hid hne
                  clear hne
                  rcases hw with e1 | ⟨e1, e2⟩ | ⟨e1, e2, e3⟩ | ⟨e1, e2, e3, e4⟩
                  all_goals
                    go_wp2_with fail
                    refine wp_region_ext (by kernel_rfl) (by kernel_rfl) ?_
                    repeat (go_big_quiet_step ((fail)))
                    refine wpQuiet_nil ?_
                    rintro w4 ⟨⟨_, x4⟩, rfl⟩
                    go_wp2
                    go_ret
                    exact ⟨ret_bool (eqB_false fun e => H0.out (by subst e; rfl)).symm, xw.trans x4⟩
              · go_wp2
                go_ret
                exact ⟨ret_bool (eqB_true ((Store.eta x y).2 ⟨H1.out, HR.out, eq_of_take hlt H3.out HE2.out⟩)).symm, xw⟩
      · have b3 : ((x.verdicts.length : Int) != (y.verdicts.length : Int)) = true := by simp; omega
        have H3 := hid h3
        clear h3
        have b2' : ((x.records.length : Int) != (y.records.length : Int)) = false := b2
        go_enter Try.func48, Try.ntmps48
        go_wp2
        go_ret
        exact ⟨ret_bool (eqB_false fun e => H3.out (by rw [e])).symm, (by repeat (first | with_reducible exact Ext.refl _ | with_reducible assumption | with_reducible refine Ext.drew ?_ | with_reducible refine Ext.alloc ?_ _ | (refine Ext.setCell ?_ (by simp) _) | with_reducible refine Ext.trans ?_ (by with_reducible assumption)))⟩
    · have b2 : ((x.records.length : Int) != (y.records.length : Int)) = true := by simp; omega
      have H2 := hid h2
      clear h2
      go_enter Try.func48, Try.ntmps48
      go_wp2
      go_ret
      exact ⟨ret_bool (eqB_false fun e => H2.out (by rw [e])).symm, (by repeat (first | with_reducible exact Ext.refl _ | with_reducible assumption | with_reducible refine Ext.drew ?_ | with_reducible refine Ext.alloc ?_ _ | (refine Ext.setCell ?_ (by simp) _) | with_reducible refine Ext.trans ?_ (by with_reducible assumption)))⟩
  · have b1 : (x.version != y.version) = true := by simp [h1]
    have H1 := hid h1
    clear h1
    go_enter Try.func48, Try.ntmps48
    go_wp2
    go_ret
    exact ⟨ret_bool (eqB_false fun e => H1.out (by rw [e])).symm, (by repeat (first | with_reducible exact Ext.refl _ | with_reducible assumption | with_reducible refine Ext.drew ?_ | with_reducible refine Ext.alloc ?_ _ | (refine Ext.setCell ?_ (by simp) _) | with_reducible refine Ext.trans ?_ (by with_reducible assumption)))⟩
end Go.Proofs.Ytbhhbdilaihegaa
