/-
  WALKS: ParseRecord (the reference's).
-/
import Derived.Test.YtfieimmlcopbhaaGreatDoorMgEndPO20
import Derived.Test.YtfieimmlcopbhaaGreatDoorMgEndPO5

namespace Go.Proofs.YtfieimmlcopbhaaGreatDoor
open Go.Shelf Go.RowKit

/-- the head's cell, and the tail as a slice -/
theorem Sl.head_tail {w : World} {v : Value} {a : ByteArray} {l : List ByteArray} (h : Sl strR w v (a :: l)) : ∃ g off n cap, v = .slice (some ⟨g, off, none⟩) n cap ∧ n = l.length + 1 ∧ (n ≤ cap ∧ cap ≤ maxLen) ∧ w.cell? ⟨g, off, none⟩ = some (.string a) ∧ Sl strR w (.slice (some ⟨g, off + 1, none⟩) (n - 1) (cap - 1)) l := by
  obtain ⟨A, cap, rfl, hc, hi⟩ := h
  obtain ⟨g, off, cs, rfl, ⟨rfl, _⟩, hcell⟩ := hi 0 (by simp)
  have h1 : strR.n = 1 := rfl
  rw [List.length_cons] at hc
  refine ⟨g, off, l.length + 1, cap, rfl, rfl, hc, by simpa [h1] using hcell 0 (by omega), some ⟨g, off + 1, none⟩, cap - 1, rfl, ⟨by omega, by omega⟩, fun i hi' => ?_⟩
  obtain ⟨g', off', cs', e, hr, hc'⟩ := hi (i + 1) (by simp; omega)
  injection e with e
  injection e with e1 e2 _
  subst e1; subst e2
  refine ⟨g, off + 1, cs', rfl, by simpa using hr, fun j hj => ?_⟩
  have := hc' j hj
  rw [h1] at this ⊢
  rw [← this]
  congr 2; omega

set_option maxHeartbeats 4000000 in
set_option maxRecDepth 20000 in
theorem spec_ParseRecord (s : ByteArray) (w : World) (hs : s.size ≤ 1048590) :
    Calls Tryz.prog 42 #[.string s] w (RecOut w · · (pR s)) := by
  have hm0 : maxLen = 9223372036854775807 := by decide
  have xa : Ext w (w.alloc (.cells #[.int .i64 0, .int .i64 0, .int .i64 0, .slice none 0 0] 24)) := (Ext.refl w).alloc _
  go_enter Tryz.func42, Tryz.ntmps42
  go_wp2_with fail
  refine (spec_l2CutN s 124 124 _ (by rfl) (by omega)).mono ?_
  rintro e w1 ⟨v1, F1, rfl, o1, n1, x1⟩
  have br1 := (Blk.new w 24 #[.int .i64 0, .int .i64 0, .int .i64 0, .slice none 0 0]).ext x1
  have xw1 := xa.trans x1
  clear x1
  obtain ⟨l0, ls, hp⟩ : ∃ l0 ls, pcs 124 s = l0 :: ls := by
    have h9 := pcs_pos 124 s
    cases h8 : pcs 124 s with
    | nil => rw [h8] at h9; simp at h9
    | cons a b => exact ⟨a, b, rfl⟩
  have sl0 : l0.size ≤ s.size := pcs_size (c := 124) (s := s) (by rw [hp]; simp)
  have hll : ls.length + 1 ≤ s.size + 1 := by have := pcs_len 124 s; rw [hp] at this; simpa using this
  have HP := hid hp
  rw [hp] at o1
  clear hp
  obtain ⟨g1, p1, n, c1, rfl, hnl, ⟨hnc, hcm⟩, e1, t1⟩ := o1.sl.head_tail
  unfold maxLen at hcm
  have q1 : (1 : Int) ≤ (n : Int) := by omega
  have q2 : (n : Int) ≤ (c1 : Int) := by omega
  have q3 : (0 : Int) < (n : Int) := by omega
  have HNL := hid hnl
  clear hnl
  have HT := hid (show ∀ W, Ext w1 W → Sl strR W (.slice (some ⟨g1, p1 + 1, none⟩) (n - 1) (c1 - 1)) ls from fun W y => t1.mono y)
  clear t1
  go_wp2_with fail
  refine (spec_l2CutN l0 46 46 _ (by rfl) (by omega)).mono ?_
  rintro e w2 ⟨v2, F2, rfl, o2, n2, x2⟩
  have br2 := br1.ext x2
  have xw2 := xw1.trans x2
  have e1' := x2.cell e1
  clear br1 e1
  by_cases h2 : (pcs 46 l0).length = 2
  · obtain ⟨h0, h1, hp2⟩ := two_of h2
    have HP2 := hid hp2
    rw [hp2] at o2
    have sh0 : h0.size ≤ l0.size := pcs_size (c := 46) (s := l0) (by rw [hp2]; simp)
    have sh1 : h1.size ≤ l0.size := pcs_size (c := 46) (s := l0) (by rw [hp2]; simp)
    have hne : s ≠ ⟨#[]⟩ := fun e => by
      have : l0.size ≤ 0 := by rw [e] at sl0; exact sl0
      rw [bytes_nil (show ¬ 0 < l0.size by omega)] at h2
      exact absurd h2 (by decide)
    obtain ⟨gH, oH, cH, rfl, d0, d1, hgH, zh0, zh1, _⟩ := o2.two
    clear h2 hp2 zh0 zh1
    by_cases hz2 : h0.size < 2
    · have HV := hid (pR_no2 HP.out HP2.out hz2)
      obtain ⟨⟨s0, y0⟩, ⟨s1, y1⟩, ⟨s2, y2⟩, ⟨s3, y3⟩, b9⟩ := Blk.store4 br2 (.int .i64 0) (.int .i64 0) (.int .i64 0) (.slice none 0 0)
      obtain ⟨⟨r0, r1, r2, r3⟩, _⟩ := b9.c4
      have x9 : Ext w ((((w2.setCell ⟨w.heap.size, 0, none⟩ (.int .i64 0)).setCell ⟨w.heap.size, 1, none⟩ (.int .i64 0)).setCell ⟨w.heap.size, 2, none⟩ (.int .i64 0)).setCell ⟨w.heap.size, 3, none⟩ (.slice none 0 0)) := (((xw2.setCell (Nat.le_refl _) _).setCell (Nat.le_refl _) _).setCell (Nat.le_refl _) _).setCell (Nat.le_refl _) _
      have o9 : OwnSl strO ((((w2.setCell ⟨w.heap.size, 0, none⟩ (.int .i64 0)).setCell ⟨w.heap.size, 1, none⟩ (.int .i64 0)).setCell ⟨w.heap.size, 2, none⟩ (.int .i64 0)).setCell ⟨w.heap.size, 3, none⟩ (.slice none 0 0)) (.slice none 0 0) ([] : List ByteArray) [] := OwnSl.nilS _ _
      clear b9
      go_wp2
      refine bodyPost_ret (v := .tuple #[.agg #[.int .i64 0, .int .i64 0, .int .i64 0, .slice none 0 0], .bool false]) (by simp [results, Tryz.results42, go_sem, r0, r1, r2, r3]) rfl ?_
      exact ⟨_, _, by rw [HV.out], by rw [HV.out]; exact ⟨_, rfl, okZ, o9⟩, NewF.nil _, x9⟩
    · have hb0 : 0 < h0.size := by omega
      obtain ⟨x, hx⟩ : ∃ x : UInt8, h0[0]'hb0 = x := ⟨_, rfl⟩
      have hx2 : h0.data.toList[0]? = some x := by rw [← hx]; exact Go.Lib.data_getElem? h0 0 hb0
      have HA := hid (show ∀ r, okRec r = true → fmtR r = s → r = ⟨(x.toNat : Int) - 97, (pI (h0.extract 1 h0.size)).1, (pI h1).1, ls⟩ from by
        have h9 := pR_A1 HP.out HP2.out x hx2
        rw [show bs (h0.data.toList.drop 1) = h0.extract 1 h0.size by rw [← Go.Lib.extract_to_end, bs_mk]] at h9
        exact h9)
      have hxb := x.toNat_lt
      have hw1 : IntKind.i64.wrap (x.toNat : Int) = (x.toNat : Int) := by simp [IntKind.wrap, IntKind.bits, IntKind.signed]; omega
      have hw2 : IntKind.i64.wrap ((x.toNat : Int) - 97) = (x.toNat : Int) - 97 := by simp [IntKind.wrap, IntKind.bits, IntKind.signed]; omega
      have hz1 : (h0.extract 1 h0.size).size ≤ 1048600 := by rw [ByteArray.size_extract]; omega
      clear hx2
      go_wp2_with fail
      refine (spec_ParseInt (h0.extract 1 h0.size) _ hz1).mono ?_
      rintro e w3 ⟨rfl, x3⟩
      have br3 := br2.ext x3
      have xw3 := xw2.trans x3
      have d0' := x3.cell d0
      have d1' := x3.cell d1
      have x13 := x2.trans x3
      clear br2 xw2 x3 d0 d1 e1' x2
      go_wp2_with fail
      refine (spec_ParseInt h1 _ (by omega)).mono ?_
      rintro e w4 ⟨rfl, x4⟩
      have br4 := br3.ext x4
      have xw4 := xw3.trans x4
      have HD := hid (show ∀ W, Ext w4 W → W.cell? ⟨gH, oH, none⟩ = some (.string h0) from fun W y => (x4.trans y).cell d0')
      obtain ⟨q, hq, HTT⟩ : ∃ q, ((¬ c1 = 1 ∧ q = p1 + 1) ∨ (c1 = 1 ∧ n = 1 ∧ q = p1)) ∧ Hid (∀ W, Ext w4 W → Sl strR W (.slice (some ⟨g1, q, none⟩) (n - 1) (c1 - 1)) ls) := by
        by_cases h9 : c1 = 1
        · have hls : ls = [] := List.eq_nil_of_length_eq_zero (by have := HNL.out; omega)
          refine ⟨p1, .inr ⟨h9, by omega, rfl⟩, hid fun W y => ?_⟩
          rw [hls, show n - 1 = 0 by omega, h9]
          exact ⟨_, _, rfl, ⟨Nat.le_refl _, Nat.zero_le _⟩, fun i hi => absurd hi (Nat.not_lt_zero _)⟩
        · exact ⟨p1 + 1, .inl ⟨h9, rfl⟩, hid fun W y => HT.out W ((x13.trans x4).trans y)⟩
      clear br3 xw3 x4 d0' d1' HT x13
      rcases hq with ⟨hc1, rfl⟩ | ⟨rfl, rfl, rfl⟩
      rotate_left
      · have hlc : ls.length ≤ 1099511627776 := by omega
        go_wp2_with fail
        go_region_held3 (fun w' => w'.cell? ⟨gH, oH, none⟩ = some (.string h0)) (exact HD.out _ (by repeat (first | with_reducible exact Ext.refl _ | with_reducible assumption | with_reducible refine Ext.drew ?_ | with_reducible refine Ext.alloc ?_ _ | (refine Ext.setCell ?_ (by simp) _) | with_reducible refine Ext.trans ?_ (by with_reducible assumption)))) (first | (refine step_apps elemStrC rfl _ _ rfl rfl (by simp) (heapA w4 _ _) rfl (HTT.out _ (by repeat (first | with_reducible exact Ext.refl _ | with_reducible assumption | with_reducible refine Ext.drew ?_ | with_reducible refine Ext.alloc ?_ _ | with_reducible refine Ext.trans ?_ (by with_reducible assumption)))) hlc (w0 := w4) (base := w4.heap.size) (Nat.le_refl _) (by repeat (first | with_reducible exact Ext.refl _ | with_reducible assumption | with_reducible refine Ext.drew ?_ | with_reducible refine Ext.alloc ?_ _ | with_reducible refine Ext.trans ?_ (by with_reducible assumption))) ?_; intro v8 w8 hB8 x8 k8; obtain ⟨A8, c8, e8, _⟩ := hB8.sl.form; subst e8; have h8 : Blk w8 w4.heap.size 24 [.int .i64 0, .int .i64 0, .int .i64 0, .slice none 0 0] := (k8 _ (by simp; try omega) (by simp; try omega)).trans (heapB w4 _ _); obtain ⟨⟨k0, k1, k2, k3⟩, kf⟩ := h8.c4; clear k8) | (refine step_apps elemStrC rfl _ _ rfl rfl (by simp) (heapB w4 _ _) rfl (HTT.out _ (by repeat (first | with_reducible exact Ext.refl _ | with_reducible assumption | with_reducible refine Ext.drew ?_ | with_reducible refine Ext.alloc ?_ _ | with_reducible refine Ext.trans ?_ (by with_reducible assumption)))) hlc (w0 := w4) (base := w4.heap.size) (Nat.le_refl _) (by repeat (first | with_reducible exact Ext.refl _ | with_reducible assumption | with_reducible refine Ext.drew ?_ | with_reducible refine Ext.alloc ?_ _ | with_reducible refine Ext.trans ?_ (by with_reducible assumption))) ?_; intro v8 w8 hB8 x8 k8; obtain ⟨A8, c8, e8, _⟩ := hB8.sl.form; subst e8; have h8 : Blk w8 (w4.heap.size + 1) 24 [.int .i64 0, .int .i64 0, .int .i64 0, .slice none 0 0] := (k8 _ (by simp; try omega) (by simp; try omega)).trans (heapA w4 _ _); obtain ⟨⟨k0, k1, k2, k3⟩, kf⟩ := h8.c4; clear k8) | (refine step_apps elemStrC rfl _ _ rfl rfl (by simp) (heap_alloc_new w4 _) rfl (HTT.out _ (by repeat (first | with_reducible exact Ext.refl _ | with_reducible assumption | with_reducible refine Ext.drew ?_ | with_reducible refine Ext.alloc ?_ _ | with_reducible refine Ext.trans ?_ (by with_reducible assumption)))) hlc (w0 := w4) (base := w4.heap.size) (Nat.le_refl _) (by repeat (first | with_reducible exact Ext.refl _ | with_reducible assumption | with_reducible refine Ext.drew ?_ | with_reducible refine Ext.alloc ?_ _ | with_reducible refine Ext.trans ?_ (by with_reducible assumption))) ?_; intro v8 w8 hB8 x8 k8; obtain ⟨A8, c8, e8, _⟩ := hB8.sl.form; subst e8; clear k8))
        all_goals
          first
          | (guard_hyp h8 : Blk w8 (w4.heap.size) 24 [.int .i64 0, .int .i64 0, .int .i64 0, .slice none 0 0]; obtain ⟨F8, o8, n8, b8, g8⟩ := Bld.own_ne hB8 h8 (by decide);            have hbn := (Blk.store4 h8 (.int .i64 ((x.toNat : Int) - 97)) (.int .i64 (pI (h0.extract 1 h0.size)).1) (.int .i64 (pI h1).1) (.slice A8 ls.length c8)).2.2.2.2; have xf : Ext w4 ((((w8.setCell ⟨w4.heap.size, 0, none⟩ (.int .i64 ((x.toNat : Int) - 97))).setCell ⟨w4.heap.size, 1, none⟩ (.int .i64 (pI (h0.extract 1 h0.size)).1)).setCell ⟨w4.heap.size, 2, none⟩ (.int .i64 (pI h1).1)).setCell ⟨w4.heap.size, 3, none⟩ (.slice A8 ls.length c8)) := (((x8.setCell (Nat.le_refl _) _).setCell (Nat.le_refl _) _).setCell (Nat.le_refl _) _).setCell (Nat.le_refl _) _; have of := ((((o8.setCell (p := ⟨w4.heap.size, 0, none⟩) g8 (.int .i64 ((x.toNat : Int) - 97))).setCell (p := ⟨w4.heap.size, 1, none⟩) g8 (.int .i64 (pI (h0.extract 1 h0.size)).1)).setCell (p := ⟨w4.heap.size, 2, none⟩) g8 (.int .i64 (pI h1).1)).setCell (p := ⟨w4.heap.size, 3, none⟩) g8 (.slice A8 ls.length c8)); clear h8 k0 k1 k2 k3 kf g8)
          | (guard_hyp h8 : Blk w8 (w4.heap.size + 1) 24 [.int .i64 0, .int .i64 0, .int .i64 0, .slice none 0 0]; obtain ⟨F8, o8, n8, b8, g8⟩ := Bld.own_ne hB8 h8 (by decide);            have hbn := (Blk.store4 h8 (.int .i64 ((x.toNat : Int) - 97)) (.int .i64 (pI (h0.extract 1 h0.size)).1) (.int .i64 (pI h1).1) (.slice A8 ls.length c8)).2.2.2.2; have xf : Ext w4 ((((w8.setCell ⟨w4.heap.size + 1, 0, none⟩ (.int .i64 ((x.toNat : Int) - 97))).setCell ⟨w4.heap.size + 1, 1, none⟩ (.int .i64 (pI (h0.extract 1 h0.size)).1)).setCell ⟨w4.heap.size + 1, 2, none⟩ (.int .i64 (pI h1).1)).setCell ⟨w4.heap.size + 1, 3, none⟩ (.slice A8 ls.length c8)) := (((x8.setCell (Nat.le_succ _) _).setCell (Nat.le_succ _) _).setCell (Nat.le_succ _) _).setCell (Nat.le_succ _) _; have of := ((((o8.setCell (p := ⟨w4.heap.size + 1, 0, none⟩) g8 (.int .i64 ((x.toNat : Int) - 97))).setCell (p := ⟨w4.heap.size + 1, 1, none⟩) g8 (.int .i64 (pI (h0.extract 1 h0.size)).1)).setCell (p := ⟨w4.heap.size + 1, 2, none⟩) g8 (.int .i64 (pI h1).1)).setCell (p := ⟨w4.heap.size + 1, 3, none⟩) g8 (.slice A8 ls.length c8)); clear h8 k0 k1 k2 k3 kf g8)
          | (obtain ⟨F8, o8, n8, b8⟩ := hB8.done;            have hbn := Blk.new w8 24 #[.int .i64 ((x.toNat : Int) - 97), .int .i64 (pI (h0.extract 1 h0.size)).1, .int .i64 (pI h1).1, .slice A8 ls.length c8]; have xf : Ext w4 (w8.alloc (.cells #[.int .i64 ((x.toNat : Int) - 97), .int .i64 (pI (h0.extract 1 h0.size)).1, .int .i64 (pI h1).1, .slice A8 ls.length c8] 24)) := x8.alloc _; have of := o8.ext ((Ext.refl w8).alloc (.cells #[.int .i64 ((x.toNat : Int) - 97), .int .i64 (pI (h0.extract 1 h0.size)).1, .int .i64 (pI h1).1, .slice A8 ls.length c8] 24)))
          have hI : I64 ((x.toNat : Int) - 97) ∧ I64 (pI (h0.extract 1 h0.size)).1 ∧ I64 (pI h1).1 := ⟨by unfold I64; omega, pI_64 _, pI_64 _⟩
          have nF : NewF w F8 := ⟨n8, fun b hb => Nat.le_trans xw4.size (b8 b hb)⟩
          have hgF : w.heap.size ∉ F8 := fun hm => by have h9 := b8 _ hm; have h8 := block_lt br4; omega
          have xwf := xw4.trans xf
          have brf := br4.ext xf
          obtain ⟨⟨k0, k1, k2, k3⟩, _⟩ := Blk.c4 hbn
          clear hB8 x8 o8 b8 n8 xf
          go_wp2_with fail
          refine (spec_FormatRecord _ ⟨(x.toNat : Int) - 97, (pI (h0.extract 1 h0.size)).1, (pI h1).1, ls⟩ _ ⟨_, rfl, hI, of.sl⟩).mono ?_
          rintro e w9 ⟨rfl, y9⟩
          have bn9 := hbn.ext y9
          have br9 := brf.ext y9
          have o9' := of.ext y9
          have xw9 := xwf.trans y9
          clear k0 k1 k2 k3 hbn y9 brf of xwf
          obtain ⟨⟨k0, k1, k2, k3⟩, _⟩ := Blk.c4 bn9
          have HI := hid hI
          clear hI
          by_cases hq : fmtR ⟨(x.toNat : Int) - 97, (pI (h0.extract 1 h0.size)).1, (pI h1).1, ls⟩ = s
          · have hq1 := str_eq hq
            have hq2 : (fmtR ⟨(x.toNat : Int) - 97, (pI (h0.extract 1 h0.size)).1, (pI h1).1, ls⟩).toList = s.toList := by rw [hq]
            have HPP := hid (show pR s = (⟨(x.toNat : Int) - 97, (pI (h0.extract 1 h0.size)).1, (pI h1).1, ls⟩, true) from ans_yes HA.out (fmtR_ok hq hne) hq)
            clear hq bn9
            obtain ⟨⟨s0, y0⟩, ⟨s1, y1⟩, ⟨s2, y2⟩, ⟨s3, y3⟩, b9⟩ := Blk.store4 br9 (.int .i64 ((x.toNat : Int) - 97)) (.int .i64 (pI (h0.extract 1 h0.size)).1) (.int .i64 (pI h1).1) (.slice A8 ls.length c8)
            obtain ⟨⟨r0, r1, r2, r3⟩, _⟩ := b9.c4
            have x9 : Ext w ((((w9.setCell ⟨w.heap.size, 0, none⟩ (.int .i64 ((x.toNat : Int) - 97))).setCell ⟨w.heap.size, 1, none⟩ (.int .i64 (pI (h0.extract 1 h0.size)).1)).setCell ⟨w.heap.size, 2, none⟩ (.int .i64 (pI h1).1)).setCell ⟨w.heap.size, 3, none⟩ (.slice A8 ls.length c8)) := (((xw9.setCell (Nat.le_refl _) _).setCell (Nat.le_refl _) _).setCell (Nat.le_refl _) _).setCell (Nat.le_refl _) _
            have o9 := (((((o9').setCell (p := ⟨w.heap.size, 0, none⟩) hgF (.int .i64 ((x.toNat : Int) - 97))).setCell (p := ⟨w.heap.size, 1, none⟩) hgF (.int .i64 (pI (h0.extract 1 h0.size)).1)).setCell (p := ⟨w.heap.size, 2, none⟩) hgF (.int .i64 (pI h1).1)).setCell (p := ⟨w.heap.size, 3, none⟩) hgF (.slice A8 ls.length c8))
            clear b9
            go_wp2
            refine bodyPost_ret (v := .tuple #[.agg #[.int .i64 ((x.toNat : Int) - 97), .int .i64 (pI (h0.extract 1 h0.size)).1, .int .i64 (pI h1).1, .slice A8 ls.length c8], .bool true]) (by simp [results, Tryz.results42, go_sem, r0, r1, r2, r3]) rfl ?_
            exact ⟨_, _, by rw [HPP.out], by rw [HPP.out]; exact ⟨_, rfl, HI.out, o9⟩, nF, x9⟩
          · have hq1 := str_ne hq
            have HPP := hid (show pR s = (⟨0, 0, 0, []⟩, false) from ans_end HA.out hq)
            clear hq bn9
            obtain ⟨⟨s0, y0⟩, ⟨s1, y1⟩, ⟨s2, y2⟩, ⟨s3, y3⟩, b9⟩ := Blk.store4 br9 (.int .i64 0) (.int .i64 0) (.int .i64 0) (.slice none 0 0)
            obtain ⟨⟨r0, r1, r2, r3⟩, _⟩ := b9.c4
            have x9 : Ext w ((((w9.setCell ⟨w.heap.size, 0, none⟩ (.int .i64 0)).setCell ⟨w.heap.size, 1, none⟩ (.int .i64 0)).setCell ⟨w.heap.size, 2, none⟩ (.int .i64 0)).setCell ⟨w.heap.size, 3, none⟩ (.slice none 0 0)) := (((xw9.setCell (Nat.le_refl _) _).setCell (Nat.le_refl _) _).setCell (Nat.le_refl _) _).setCell (Nat.le_refl _) _
            have o9 : OwnSl strO ((((w9.setCell ⟨w.heap.size, 0, none⟩ (.int .i64 0)).setCell ⟨w.heap.size, 1, none⟩ (.int .i64 0)).setCell ⟨w.heap.size, 2, none⟩ (.int .i64 0)).setCell ⟨w.heap.size, 3, none⟩ (.slice none 0 0)) (.slice none 0 0) ([] : List ByteArray) [] := OwnSl.nilS _ _
            clear b9
            go_wp2
            refine bodyPost_ret (v := .tuple #[.agg #[.int .i64 0, .int .i64 0, .int .i64 0, .slice none 0 0], .bool false]) (by simp [results, Tryz.results42, go_sem, r0, r1, r2, r3]) rfl ?_
            exact ⟨_, _, by rw [HPP.out], by rw [HPP.out]; exact ⟨_, rfl, okZ, o9⟩, NewF.nil _, x9⟩
      · have hlc : ls.length ≤ 1099511627776 := by omega
        obtain ⟨c, rfl⟩ : ∃ c, c1 = c + 2 := ⟨c1 - 2, by omega⟩
        have q4 : (n : Int) ≤ (c : Int) + 2 := by omega
        clear q2
        go_wp2_with fail
        go_region_held3 (fun w' => w'.cell? ⟨gH, oH, none⟩ = some (.string h0)) (exact HD.out _ (by repeat (first | with_reducible exact Ext.refl _ | with_reducible assumption | with_reducible refine Ext.drew ?_ | with_reducible refine Ext.alloc ?_ _ | (refine Ext.setCell ?_ (by simp) _) | with_reducible refine Ext.trans ?_ (by with_reducible assumption)))) (first | (refine step_apps elemStrC rfl _ _ rfl rfl (by simp) (heapA w4 _ _) rfl (HTT.out _ (by repeat (first | with_reducible exact Ext.refl _ | with_reducible assumption | with_reducible refine Ext.drew ?_ | with_reducible refine Ext.alloc ?_ _ | with_reducible refine Ext.trans ?_ (by with_reducible assumption)))) hlc (w0 := w4) (base := w4.heap.size) (Nat.le_refl _) (by repeat (first | with_reducible exact Ext.refl _ | with_reducible assumption | with_reducible refine Ext.drew ?_ | with_reducible refine Ext.alloc ?_ _ | with_reducible refine Ext.trans ?_ (by with_reducible assumption))) ?_; intro v8 w8 hB8 x8 k8; obtain ⟨A8, c8, e8, _⟩ := hB8.sl.form; subst e8; have h8 : Blk w8 w4.heap.size 24 [.int .i64 0, .int .i64 0, .int .i64 0, .slice none 0 0] := (k8 _ (by simp; try omega) (by simp; try omega)).trans (heapB w4 _ _); obtain ⟨⟨k0, k1, k2, k3⟩, kf⟩ := h8.c4; clear k8) | (refine step_apps elemStrC rfl _ _ rfl rfl (by simp) (heapB w4 _ _) rfl (HTT.out _ (by repeat (first | with_reducible exact Ext.refl _ | with_reducible assumption | with_reducible refine Ext.drew ?_ | with_reducible refine Ext.alloc ?_ _ | with_reducible refine Ext.trans ?_ (by with_reducible assumption)))) hlc (w0 := w4) (base := w4.heap.size) (Nat.le_refl _) (by repeat (first | with_reducible exact Ext.refl _ | with_reducible assumption | with_reducible refine Ext.drew ?_ | with_reducible refine Ext.alloc ?_ _ | with_reducible refine Ext.trans ?_ (by with_reducible assumption))) ?_; intro v8 w8 hB8 x8 k8; obtain ⟨A8, c8, e8, _⟩ := hB8.sl.form; subst e8; have h8 : Blk w8 (w4.heap.size + 1) 24 [.int .i64 0, .int .i64 0, .int .i64 0, .slice none 0 0] := (k8 _ (by simp; try omega) (by simp; try omega)).trans (heapA w4 _ _); obtain ⟨⟨k0, k1, k2, k3⟩, kf⟩ := h8.c4; clear k8) | (refine step_apps elemStrC rfl _ _ rfl rfl (by simp) (heap_alloc_new w4 _) rfl (HTT.out _ (by repeat (first | with_reducible exact Ext.refl _ | with_reducible assumption | with_reducible refine Ext.drew ?_ | with_reducible refine Ext.alloc ?_ _ | with_reducible refine Ext.trans ?_ (by with_reducible assumption)))) hlc (w0 := w4) (base := w4.heap.size) (Nat.le_refl _) (by repeat (first | with_reducible exact Ext.refl _ | with_reducible assumption | with_reducible refine Ext.drew ?_ | with_reducible refine Ext.alloc ?_ _ | with_reducible refine Ext.trans ?_ (by with_reducible assumption))) ?_; intro v8 w8 hB8 x8 k8; obtain ⟨A8, c8, e8, _⟩ := hB8.sl.form; subst e8; clear k8))
        all_goals
          first
          | (guard_hyp h8 : Blk w8 (w4.heap.size) 24 [.int .i64 0, .int .i64 0, .int .i64 0, .slice none 0 0]; obtain ⟨F8, o8, n8, b8, g8⟩ := Bld.own_ne hB8 h8 (by decide);            have hbn := (Blk.store4 h8 (.int .i64 ((x.toNat : Int) - 97)) (.int .i64 (pI (h0.extract 1 h0.size)).1) (.int .i64 (pI h1).1) (.slice A8 ls.length c8)).2.2.2.2; have xf : Ext w4 ((((w8.setCell ⟨w4.heap.size, 0, none⟩ (.int .i64 ((x.toNat : Int) - 97))).setCell ⟨w4.heap.size, 1, none⟩ (.int .i64 (pI (h0.extract 1 h0.size)).1)).setCell ⟨w4.heap.size, 2, none⟩ (.int .i64 (pI h1).1)).setCell ⟨w4.heap.size, 3, none⟩ (.slice A8 ls.length c8)) := (((x8.setCell (Nat.le_refl _) _).setCell (Nat.le_refl _) _).setCell (Nat.le_refl _) _).setCell (Nat.le_refl _) _; have of := ((((o8.setCell (p := ⟨w4.heap.size, 0, none⟩) g8 (.int .i64 ((x.toNat : Int) - 97))).setCell (p := ⟨w4.heap.size, 1, none⟩) g8 (.int .i64 (pI (h0.extract 1 h0.size)).1)).setCell (p := ⟨w4.heap.size, 2, none⟩) g8 (.int .i64 (pI h1).1)).setCell (p := ⟨w4.heap.size, 3, none⟩) g8 (.slice A8 ls.length c8)); clear h8 k0 k1 k2 k3 kf g8)
          | (guard_hyp h8 : Blk w8 (w4.heap.size + 1) 24 [.int .i64 0, .int .i64 0, .int .i64 0, .slice none 0 0]; obtain ⟨F8, o8, n8, b8, g8⟩ := Bld.own_ne hB8 h8 (by decide);            have hbn := (Blk.store4 h8 (.int .i64 ((x.toNat : Int) - 97)) (.int .i64 (pI (h0.extract 1 h0.size)).1) (.int .i64 (pI h1).1) (.slice A8 ls.length c8)).2.2.2.2; have xf : Ext w4 ((((w8.setCell ⟨w4.heap.size + 1, 0, none⟩ (.int .i64 ((x.toNat : Int) - 97))).setCell ⟨w4.heap.size + 1, 1, none⟩ (.int .i64 (pI (h0.extract 1 h0.size)).1)).setCell ⟨w4.heap.size + 1, 2, none⟩ (.int .i64 (pI h1).1)).setCell ⟨w4.heap.size + 1, 3, none⟩ (.slice A8 ls.length c8)) := (((x8.setCell (Nat.le_succ _) _).setCell (Nat.le_succ _) _).setCell (Nat.le_succ _) _).setCell (Nat.le_succ _) _; have of := ((((o8.setCell (p := ⟨w4.heap.size + 1, 0, none⟩) g8 (.int .i64 ((x.toNat : Int) - 97))).setCell (p := ⟨w4.heap.size + 1, 1, none⟩) g8 (.int .i64 (pI (h0.extract 1 h0.size)).1)).setCell (p := ⟨w4.heap.size + 1, 2, none⟩) g8 (.int .i64 (pI h1).1)).setCell (p := ⟨w4.heap.size + 1, 3, none⟩) g8 (.slice A8 ls.length c8)); clear h8 k0 k1 k2 k3 kf g8)
          | (obtain ⟨F8, o8, n8, b8⟩ := hB8.done;            have hbn := Blk.new w8 24 #[.int .i64 ((x.toNat : Int) - 97), .int .i64 (pI (h0.extract 1 h0.size)).1, .int .i64 (pI h1).1, .slice A8 ls.length c8]; have xf : Ext w4 (w8.alloc (.cells #[.int .i64 ((x.toNat : Int) - 97), .int .i64 (pI (h0.extract 1 h0.size)).1, .int .i64 (pI h1).1, .slice A8 ls.length c8] 24)) := x8.alloc _; have of := o8.ext ((Ext.refl w8).alloc (.cells #[.int .i64 ((x.toNat : Int) - 97), .int .i64 (pI (h0.extract 1 h0.size)).1, .int .i64 (pI h1).1, .slice A8 ls.length c8] 24)))
          have hI : I64 ((x.toNat : Int) - 97) ∧ I64 (pI (h0.extract 1 h0.size)).1 ∧ I64 (pI h1).1 := ⟨by unfold I64; omega, pI_64 _, pI_64 _⟩
          have nF : NewF w F8 := ⟨n8, fun b hb => Nat.le_trans xw4.size (b8 b hb)⟩
          have hgF : w.heap.size ∉ F8 := fun hm => by have h9 := b8 _ hm; have h8 := block_lt br4; omega
          have xwf := xw4.trans xf
          have brf := br4.ext xf
          obtain ⟨⟨k0, k1, k2, k3⟩, _⟩ := Blk.c4 hbn
          clear hB8 x8 o8 b8 n8 xf
          go_wp2_with fail
          refine (spec_FormatRecord _ ⟨(x.toNat : Int) - 97, (pI (h0.extract 1 h0.size)).1, (pI h1).1, ls⟩ _ ⟨_, rfl, hI, of.sl⟩).mono ?_
          rintro e w9 ⟨rfl, y9⟩
          have bn9 := hbn.ext y9
          have br9 := brf.ext y9
          have o9' := of.ext y9
          have xw9 := xwf.trans y9
          clear k0 k1 k2 k3 hbn y9 brf of xwf
          obtain ⟨⟨k0, k1, k2, k3⟩, _⟩ := Blk.c4 bn9
          have HI := hid hI
          clear hI
          by_cases hq : fmtR ⟨(x.toNat : Int) - 97, (pI (h0.extract 1 h0.size)).1, (pI h1).1, ls⟩ = s
          · have hq1 := str_eq hq
            have hq2 : (fmtR ⟨(x.toNat : Int) - 97, (pI (h0.extract 1 h0.size)).1, (pI h1).1, ls⟩).toList = s.toList := by rw [hq]
            have HPP := hid (show pR s = (⟨(x.toNat : Int) - 97, (pI (h0.extract 1 h0.size)).1, (pI h1).1, ls⟩, true) from ans_yes HA.out (fmtR_ok hq hne) hq)
            clear hq bn9
            obtain ⟨⟨s0, y0⟩, ⟨s1, y1⟩, ⟨s2, y2⟩, ⟨s3, y3⟩, b9⟩ := Blk.store4 br9 (.int .i64 ((x.toNat : Int) - 97)) (.int .i64 (pI (h0.extract 1 h0.size)).1) (.int .i64 (pI h1).1) (.slice A8 ls.length c8)
            obtain ⟨⟨r0, r1, r2, r3⟩, _⟩ := b9.c4
            have x9 : Ext w ((((w9.setCell ⟨w.heap.size, 0, none⟩ (.int .i64 ((x.toNat : Int) - 97))).setCell ⟨w.heap.size, 1, none⟩ (.int .i64 (pI (h0.extract 1 h0.size)).1)).setCell ⟨w.heap.size, 2, none⟩ (.int .i64 (pI h1).1)).setCell ⟨w.heap.size, 3, none⟩ (.slice A8 ls.length c8)) := (((xw9.setCell (Nat.le_refl _) _).setCell (Nat.le_refl _) _).setCell (Nat.le_refl _) _).setCell (Nat.le_refl _) _
            have o9 := (((((o9').setCell (p := ⟨w.heap.size, 0, none⟩) hgF (.int .i64 ((x.toNat : Int) - 97))).setCell (p := ⟨w.heap.size, 1, none⟩) hgF (.int .i64 (pI (h0.extract 1 h0.size)).1)).setCell (p := ⟨w.heap.size, 2, none⟩) hgF (.int .i64 (pI h1).1)).setCell (p := ⟨w.heap.size, 3, none⟩) hgF (.slice A8 ls.length c8))
            clear b9
            go_wp2
            refine bodyPost_ret (v := .tuple #[.agg #[.int .i64 ((x.toNat : Int) - 97), .int .i64 (pI (h0.extract 1 h0.size)).1, .int .i64 (pI h1).1, .slice A8 ls.length c8], .bool true]) (by simp [results, Tryz.results42, go_sem, r0, r1, r2, r3]) rfl ?_
            exact ⟨_, _, by rw [HPP.out], by rw [HPP.out]; exact ⟨_, rfl, HI.out, o9⟩, nF, x9⟩
          · have hq1 := str_ne hq
            have HPP := hid (show pR s = (⟨0, 0, 0, []⟩, false) from ans_end HA.out hq)
            clear hq bn9
            obtain ⟨⟨s0, y0⟩, ⟨s1, y1⟩, ⟨s2, y2⟩, ⟨s3, y3⟩, b9⟩ := Blk.store4 br9 (.int .i64 0) (.int .i64 0) (.int .i64 0) (.slice none 0 0)
            obtain ⟨⟨r0, r1, r2, r3⟩, _⟩ := b9.c4
            have x9 : Ext w ((((w9.setCell ⟨w.heap.size, 0, none⟩ (.int .i64 0)).setCell ⟨w.heap.size, 1, none⟩ (.int .i64 0)).setCell ⟨w.heap.size, 2, none⟩ (.int .i64 0)).setCell ⟨w.heap.size, 3, none⟩ (.slice none 0 0)) := (((xw9.setCell (Nat.le_refl _) _).setCell (Nat.le_refl _) _).setCell (Nat.le_refl _) _).setCell (Nat.le_refl _) _
            have o9 : OwnSl strO ((((w9.setCell ⟨w.heap.size, 0, none⟩ (.int .i64 0)).setCell ⟨w.heap.size, 1, none⟩ (.int .i64 0)).setCell ⟨w.heap.size, 2, none⟩ (.int .i64 0)).setCell ⟨w.heap.size, 3, none⟩ (.slice none 0 0)) (.slice none 0 0) ([] : List ByteArray) [] := OwnSl.nilS _ _
            clear b9
            go_wp2
            refine bodyPost_ret (v := .tuple #[.agg #[.int .i64 0, .int .i64 0, .int .i64 0, .slice none 0 0], .bool false]) (by simp [results, Tryz.results42, go_sem, r0, r1, r2, r3]) rfl ?_
            exact ⟨_, _, by rw [HPP.out], by rw [HPP.out]; exact ⟨_, rfl, okZ, o9⟩, NewF.nil _, x9⟩
  · have HV := hid (pR_no1 HP.out h2)
    have hl1 : (((pcs 46 l0).length : Int) != 2) = true := by rw [bne_iff_ne]; omega
    obtain ⟨A2, cap2, rfl, _⟩ := o2.form
    have h2' := hid h2
    clear h2
    obtain ⟨⟨s0, y0⟩, ⟨s1, y1⟩, ⟨s2, y2⟩, ⟨s3, y3⟩, b9⟩ := Blk.store4 br2 (.int .i64 0) (.int .i64 0) (.int .i64 0) (.slice none 0 0)
    obtain ⟨⟨r0, r1, r2, r3⟩, _⟩ := b9.c4
    have x9 : Ext w ((((w2.setCell ⟨w.heap.size, 0, none⟩ (.int .i64 0)).setCell ⟨w.heap.size, 1, none⟩ (.int .i64 0)).setCell ⟨w.heap.size, 2, none⟩ (.int .i64 0)).setCell ⟨w.heap.size, 3, none⟩ (.slice none 0 0)) := (((xw2.setCell (Nat.le_refl _) _).setCell (Nat.le_refl _) _).setCell (Nat.le_refl _) _).setCell (Nat.le_refl _) _
    have o9 : OwnSl strO ((((w2.setCell ⟨w.heap.size, 0, none⟩ (.int .i64 0)).setCell ⟨w.heap.size, 1, none⟩ (.int .i64 0)).setCell ⟨w.heap.size, 2, none⟩ (.int .i64 0)).setCell ⟨w.heap.size, 3, none⟩ (.slice none 0 0)) (.slice none 0 0) ([] : List ByteArray) [] := OwnSl.nilS _ _
    clear b9
    go_wp2
    refine bodyPost_ret (v := .tuple #[.agg #[.int .i64 0, .int .i64 0, .int .i64 0, .slice none 0 0], .bool false]) (by simp [results, Tryz.results42, go_sem, r0, r1, r2, r3]) rfl ?_
    exact ⟨_, _, by rw [HV.out], by rw [HV.out]; exact ⟨_, rfl, okZ, o9⟩, NewF.nil _, x9⟩

end Go.Proofs.YtfieimmlcopbhaaGreatDoor
