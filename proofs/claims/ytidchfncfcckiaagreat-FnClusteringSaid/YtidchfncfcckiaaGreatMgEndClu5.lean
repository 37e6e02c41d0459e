/-
  WALKS: mustMatrix, MustClosure, FindConflict, IsConsistent (the program's).
-/
import Derived.Test.YtidchfncfcckiaaGreatMgEndClu2
import Derived.Test.YtidchfncfcckiaaGreatMgEndClu3
import Derived.Lib.SliceRun
import Derived.Deep.RegionHeld3

namespace Go.Proofs.YtidchfncfcckiaaGreat
open Go.RowKit

set_option maxHeartbeats 400000 in
set_option maxRecDepth 20000 in
theorem impl_FindC1 (c : Constraint) (g : Nat) (A : Option Addr) (cap : Nat) (parts : List Int) (w : World) (hc : w.cell? ⟨g, 0, none⟩ = some (.slice A parts.length cap)) (hs : Sl intR w (.slice A parts.length cap) parts)
    (ha : 0 ≤ c.a ∧ c.a < parts.length) (hb : 0 ≤ c.b ∧ c.b < parts.length) :
    Calls Tryz.prog 136 #[.agg #[.int .i64 c.a, .int .i64 c.b, .bool c.same], .pointer (some ⟨g, 0, none⟩)] w fun e w2 => e = .returned (.bool (cutB parts c)) ∧ Ext w w2 := by
  obtain ⟨ca, cb, sm⟩ := c
  dsimp only at ha hb ⊢
  obtain ⟨na, rfl⟩ : ∃ n : Nat, ca = n := ⟨ca.toNat, by omega⟩
  obtain ⟨nb, rfl⟩ : ∃ n : Nat, cb = n := ⟨cb.toNat, by omega⟩
  have hna : na < parts.length := by omega
  have hnb : nb < parts.length := by omega
  obtain ⟨b, off, eA, _, c1⟩ := hs.int hna
  obtain ⟨b2, off2, eB, _, c2⟩ := hs.int hnb
  subst eA
  injection eB with eB
  injection eB with eB eC _
  subst eB; subst eC
  have HCU := hid (show cutB parts ⟨na, nb, sm⟩ = (!sm && parts[na] == parts[nb]) from by
    unfold cutB
    rw [Int.toNat_natCast, Int.toNat_natCast, getD_getElem hna, getD_getElem hnb])
  have xb : Ext w (w.alloc (.cells #[.int .i64 (na : Int), .int .i64 (nb : Int), .bool sm] 79)) := (Ext.refl _).alloc _
  obtain ⟨wb, hwb⟩ : ∃ wb, wb = w.alloc (.cells #[.int .i64 (na : Int), .int .i64 (nb : Int), .bool sm] 79) := ⟨_, rfl⟩
  have bb : Blk wb w.heap.size 79 [.int .i64 (na : Int), .int .i64 (nb : Int), .bool sm] := by rw [hwb]; exact Blk.new w 79 #[.int .i64 (na : Int), .int .i64 (nb : Int), .bool sm]
  rw [← hwb] at xb
  have z0 : ∀ z : ExtOf wb, z.1.cell? ⟨w.heap.size, 0, none⟩ = some (.int .i64 (na : Int)) := fun z => (bb.ext z.2).cells.1 0
  have z1 : ∀ z : ExtOf wb, z.1.cell? ⟨w.heap.size, 1, none⟩ = some (.int .i64 (nb : Int)) := fun z => (bb.ext z.2).cells.1 1
  have z2 : ∀ z : ExtOf wb, z.1.cell? ⟨w.heap.size, 2, none⟩ = some (.bool sm) := fun z => (bb.ext z.2).cells.1 2
  have y0 : ∀ z : ExtOf wb, z.1.cell? ⟨g, 0, none⟩ = some (.slice (some ⟨b, off, none⟩) parts.length cap) := fun z => (xb.trans z.2).cell hc
  have y1 : ∀ z : ExtOf wb, z.1.cell? ⟨b, off + na, none⟩ = some (.int .i64 parts[na]) := fun z => (xb.trans z.2).cell c1
  have y2 : ∀ z : ExtOf wb, z.1.cell? ⟨b, off + nb, none⟩ = some (.int .i64 parts[nb]) := fun z => (xb.trans z.2).cell c2
  rw [HCU.out]
  clear bb hc hs c1 c2 ha hb
  cases sm with
  | true =>
    go_enter Tryz.func136, Tryz.ntmps136
    go_wp2_with fail
    rw [← hwb]
    refine wp_region_ext (by kernel_rfl) (by kernel_rfl) ?_
    repeat (go_big_quiet_step ((fail)))
    refine wpQuiet_nil ?_
    rintro w5 ⟨⟨_, x5⟩, rfl⟩
    go_wp2
    go_ret
    exact ⟨ret_bool rfl, xb.trans x5⟩
  | false =>
    go_enter Tryz.func136, Tryz.ntmps136
    go_wp2_with fail
    rw [← hwb]
    refine wp_region_ext (by kernel_rfl) (by kernel_rfl) ?_
    repeat (go_big_quiet_step ((fail)))
    refine wpQuiet_nil ?_
    rintro w5 ⟨⟨_, x5⟩, rfl⟩
    go_wp2
    go_ret
    exact ⟨ret_bool rfl, xb.trans x5⟩

set_option maxHeartbeats 2000000 in
set_option maxRecDepth 20000 in
theorem impl_mustMatrix (n : Nat) (v : Value) (l : List Constraint) (w : World) (h : Sl constraintR w v l) (hl : areConB n l = true) :
    Calls Tryz.prog 112 #[.int .i64 n, v] w fun e w2 => ∃ v2 F, e = .returned v2 ∧ OwnSl (slO intO) w2 v2 (mustM n l) F ∧ NewF w F ∧ Ext w w2 := by
  obtain ⟨A, cap, rfl, hm⟩ := h.form
  obtain ⟨h1, h8, _, h4⟩ := areCon_iff.1 hl
  have H4 := hid h4
  have H8 := hid h8
  clear h4 hl
  go_enter Tryz.func112, Tryz.ntmps112
  go_wp2_with fail
  refine (impl_square n w (by have := H8.out; omega)).mono ?_
  rintro e w1 ⟨v1, F1, rfl, o1, n1, x1⟩
  obtain ⟨A1, c1, e1, _⟩ := o1.form
  rw [List.length_replicate] at e1
  subst e1
  have hn1 : 0 < n := by omega
  have hA1 : ∃ G0 O0, A1 = some ⟨G0, O0, none⟩ := by
    obtain ⟨G0, O0, cp0, b0, o0, cpb0, eV0, _⟩ := o1.ints_store n1.1 (i := 0) (s := 0) (by rw [List.length_replicate]; exact hn1) (by rw [List.getElem_replicate, List.length_replicate]; exact hn1)
    injection eV0 with eV0 _ _
    exact ⟨G0, O0, eV0⟩
  obtain ⟨G0, O0, rfl⟩ := hA1
  clear h1 h8
  go_wp2_with fail
  go_loopw [12] (fun i wr => ∃ (k : Nat), k ≤ l.length ∧ i = .int .i64 k ∧ OwnSl (slO intO) wr (.slice (some ⟨G0, O0, none⟩) n c1) (mustM n (l.take k)) F1 ∧ Ext w wr) (fun i _ => l.length - (intOf i).toNat)
  case atStart => exact ⟨0, Nat.zero_le _, rfl, o1, x1⟩
  case round =>
    clear o1
    obtain ⟨k, hk, rfl, hO, hx⟩ := hrel
    by_cases hlt : k < l.length
    · obtain ⟨b, off, eA, hokk, d0, d1, d2⟩ := (h.mono hx).constraint hlt
      subst eA
      have hc := H4.out l[k] (List.getElem_mem hlt)
      have hst : mustM n (l.take (k + 1)) = mustSt (mustM n (l.take k)) l[k] := by rw [List.take_succ_eq_append_getElem hlt]; unfold mustM; rw [List.foldl_append]; rfl
      have hsq := (mustM_ent n _ (l.take k) rfl fun x hx => H4.out x (List.mem_of_mem_take hx)).1
      have HST := hid hst
      obtain ⟨M, hM⟩ : ∃ M, M = mustM n (l.take k) := ⟨_, rfl⟩
      rw [← hM] at HST hsq hO
      obtain ⟨a, ha⟩ : ∃ a : Nat, l[k].a = a := ⟨l[k].a.toNat, by omega⟩
      obtain ⟨b', hb'⟩ : ∃ b : Nat, l[k].b = b := ⟨l[k].b.toNat, by omega⟩
      rw [ha] at d0
      rw [hb'] at d1
      have han : a < n := by omega
      have hbn : b' < n := by omega
      have hab : a ≠ b' := by omega
      have xb : Ext wr (wr.alloc (.cells #[.int .i64 (a : Int), .int .i64 (b' : Int), .bool l[k].same] 79)) := (Ext.refl wr).alloc _
      cases hs : l[k].same with
      | false =>
        have HS2 := hid (show mustM n (l.take (k + 1)) = M from by rw [HST.out]; unfold mustSt; rw [hs]; rfl)
        rw [hs] at d2 xb
        have HOx := hid (hO.ext xb)
        have HX := hid (hx.trans xb)
        clear hst hM hO hx hc hokk hs ha hb' HST
        go_wp2
        go_roundw
        case rel => exact ⟨k + 1, by omega, by go_num, by rw [HS2.out]; exact HOx.out, HX.out⟩
        case measure => simp [intOf]; omega
      | true =>
        have HS2 := hid (show mustM n (l.take (k + 1)) = setE (setE M a b' 1) b' a 1 from by rw [HST.out]; unfold mustSt; rw [if_pos hs, ha, hb', Int.toNat_natCast, Int.toNat_natCast])
        rw [hs] at d2 xb
        obtain ⟨wb, hwb⟩ : ∃ wb, wb = wr.alloc (.cells #[.int .i64 (a : Int), .int .i64 (b' : Int), .bool true] 79) := ⟨_, rfl⟩
        have bb : Blk wb wr.heap.size 79 [.int .i64 (a : Int), .int .i64 (b' : Int), .bool true] := by rw [hwb]; exact Blk.new wr 79 #[.int .i64 (a : Int), .int .i64 (b' : Int), .bool true]
        rw [← hwb] at xb
        have hOb := hO.ext xb
        have hrow : ∀ j, j < n → ∀ h : j < M.length, M[j].length = n := fun j hj h => by have := hsq.2 j hj; rwa [getD_getElem h] at this
        have hMl := hsq.1
        have haM : a < M.length := by omega
        have hbM : b' < M.length := by omega
        have hra := hrow a han haM
        have hrb := hrow b' hbn hbM
        obtain ⟨g, off2, cp, b1, o1, cp1, eV, cell_a, hbF, hgb, cell1, fr1, st1⟩ := hOb.ints_store n1.1 (i := a) (s := b') haM (by omega)
        have hO1 := st1 1 (by unfold I64; omega)
        have hbM1 : b' < (M.set a (M[a].set b' 1)).length := by rw [List.length_set]; exact hbM
        have eb1 : (M.set a (M[a].set b' 1))[b'] = M[b'] := by rw [List.getElem_set_ne hab]
        obtain ⟨g', off', cp', b2, o2, cp2, eV', cell_b, hbF2, hgb2, cell2, fr2, st2⟩ := hO1.ints_store n1.1 (i := b') (s := a) hbM1 (by rw [eb1]; omega)
        injection eV with eV1 q1 q2
        clear q1 q2
        injection eV1 with eV1
        injection eV1 with e9 e8 _
        subst e9; subst e8
        injection eV' with eV1' q1 q2
        clear q1 q2
        injection eV1' with eV1'
        injection eV1' with e9 e8 _
        subst e9; subst e8
        have hO2 := st2 1 (by unfold I64; omega)
        rw [eb1] at cell_b
        rw [hra] at cell_a
        rw [hrb] at cell_b
        have cell_b0 : wb.cell? ⟨G0, O0 + b', none⟩ = some (.slice (some ⟨b2, o2, none⟩) n cp2) := Agree.cell (w := wb) (g := b1) (fun b hb => (keep_setCell hb).symm) hgb cell_b
        obtain ⟨g7, hg7⟩ : ∃ g, g = wr.heap.size := ⟨_, rfl⟩
        rw [← hg7] at bb
        have hF1 : ∀ b ∈ F1, b < g7 := fun b hb => by rw [hg7]; exact hO.lt b hb
        have h71 : g7 ≠ b1 := fun e => by have := hF1 b1 hbF; omega
        have h72 : g7 ≠ b2 := fun e => by have := hF1 b2 hbF2; omega
        have k0 := bb.cells.1 0
        have k1 := bb.cells.1 1
        have HSF := hid (show ∀ (W : World), Agree wb W b1 → W.cell? ⟨g7, 0, none⟩ = some (.int .i64 (a : Int)) ∧ W.cell? ⟨g7, 1, none⟩ = some (.int .i64 (b' : Int)) ∧ W.cell? ⟨G0, O0 + a, none⟩ = some (.slice (some ⟨b1, o1, none⟩) n cp1) ∧ W.cell? ⟨G0, O0 + b', none⟩ = some (.slice (some ⟨b2, o2, none⟩) n cp2) from fun W y => ⟨y.cell h71 k0, y.cell h71 k1, y.cell hgb cell_a, y.cell hgb cell_b0⟩)
        have HSG := hid (show ∀ (W1 W : World), Agree wb W1 b1 → Agree W1 W b2 → W.cell? ⟨g7, 0, none⟩ = some (.int .i64 (a : Int)) ∧ W.cell? ⟨g7, 1, none⟩ = some (.int .i64 (b' : Int)) ∧ W.cell? ⟨G0, O0 + a, none⟩ = some (.slice (some ⟨b1, o1, none⟩) n cp1) ∧ W.cell? ⟨G0, O0 + b', none⟩ = some (.slice (some ⟨b2, o2, none⟩) n cp2) from fun W1 W y z => ⟨z.cell h72 (y.cell h71 k0), z.cell h72 (y.cell h71 k1), z.cell hgb2 (y.cell hgb cell_a), z.cell hgb2 (y.cell hgb cell_b0)⟩)
        have hbW : w.heap.size ≤ b1 := n1.2 b1 hbF
        have hbW2 : w.heap.size ≤ b2 := n1.2 b2 hbF2
        have HX := hid (((hx.trans xb).setCell (p := ⟨b1, o1 + b', none⟩) hbW (.int .i64 1)).setCell (p := ⟨b2, o2 + a, none⟩) hbW2 (.int .i64 1))
        have hM2 := (show setE (setE M a b' 1) b' a 1 = (M.set a (M[a].set b' 1)).set b' ((M.set a (M[a].set b' 1))[b'].set a 1) from by
          unfold setE
          rw [getD_getElem (a := M) haM, getD_getElem (a := M.set a (M[a].set b' 1)) hbM1])
        rw [← hM2] at hO2
        have HO2 := hid hO2
        clear hM2
        have hu1 : ∃ u, wb.cell? ⟨b1, o1 + b', none⟩ = some u := ⟨_, cell1⟩
        have hu2 : ∃ u, (wb.setCell ⟨b1, o1 + b', none⟩ (.int .i64 1)).cell? ⟨b2, o2 + a, none⟩ = some u := ⟨_, cell2⟩
        clear cell1 cell2
        obtain ⟨u1, cell1⟩ := hu1
        obtain ⟨u2, cell2⟩ := hu2
        clear hst hM hO hx hc hokk hs ha hb' HST hOb hO1 hO2 st1 st2 hrow hra hrb eb1 cell_a cell_b bb k0 k1 hF1 hbF hbF2 hMl haM hbM hbM1 hsq
        have HWB := hid (And.intro hwb hg7)
        clear hwb hg7
        go_wp2_with fail
        rw [← HWB.out.1, ← HWB.out.2]
        go_region_held3 (fun w' => w'.cell? ⟨g7, 0, none⟩ = some (.int .i64 (a : Int)) ∧ w'.cell? ⟨g7, 1, none⟩ = some (.int .i64 (b' : Int)) ∧ w'.cell? ⟨G0, O0 + a, none⟩ = some (.slice (some ⟨b1, o1, none⟩) n cp1) ∧ w'.cell? ⟨G0, O0 + b', none⟩ = some (.slice (some ⟨b2, o2, none⟩) n cp2)) (first | exact HSF.out _ (fun _ _ => rfl) | exact HSF.out _ (Agree.set (fun _ _ => rfl)) | exact HSG.out (wb.setCell ⟨b1, o1 + b', none⟩ (.int .i64 1)) _ (Agree.set (fun _ _ => rfl)) (Agree.set (fun _ _ => rfl))) (fail)
        all_goals
          go_wp2
          go_roundw
          case rel => exact ⟨k + 1, by omega, by go_num, by rw [HS2.out]; exact HO2.out.ext (Ext.refl _).drew, HX.out.drew⟩
          case measure => simp [intOf]; omega
    · rw [List.take_of_length_le (by omega)] at hO
      have HO := hid hO
      clear hO
      go_wp2
      go_ret
      exact ⟨_, F1, rfl, HO.out, n1, hx⟩

set_option maxHeartbeats 400000 in
set_option maxRecDepth 20000 in
theorem impl_MustClosure (n : Int) (v : Value) (l : List Constraint) (w : World) (h : Sl constraintR w v l) :
    Calls Tryz.prog 58 #[.int .i64 n, v] w fun e w2 => ∃ v2 F, e = .returned v2 ∧ OwnSl intO w2 v2 (mustL n l) F ∧ NewF w F ∧ Ext w w2 ∧ (areConB n l = false → v2 = .slice none 0 0) := by
  have HC := hid (impl_AreConstraints n v l w h)
  obtain ⟨A, cap, rfl, hm⟩ := h.form
  cases hc : areConB n l with
  | false =>
    have HM := hid (show mustL n l = [] from by unfold mustL; rw [hc]; rfl)
    rw [hc] at HC
    clear hc h
    go_enter Tryz.func58, Tryz.ntmps58
    go_wp2_with fail
    refine (HC.out).mono ?_
    rintro e w2 ⟨rfl, x2⟩
    go_wp2
    go_ret
    exact ⟨_, [], rfl, by rw [HM.out]; exact .inl ⟨rfl, rfl, none, 0, rfl, Nat.zero_le _⟩, .nil _, x2, fun _ => rfl⟩
  | true =>
    have HP := hid (mustM_pos hc)
    obtain ⟨h1, h8, _, _⟩ := areCon_iff.1 hc
    obtain ⟨k, rfl⟩ : ∃ k : Nat, n = k := ⟨n.toNat, by omega⟩
    rw [hc] at HC
    have HCC := hid hc
    clear hc h1 h8
    go_enter Tryz.func58, Tryz.ntmps58
    go_wp2_with fail
    refine (HC.out).mono ?_
    rintro e w2 ⟨rfl, x2⟩
    go_wp2_with fail
    refine (impl_mustMatrix k _ l w2 (h.mono x2) HCC.out).mono ?_
    rintro e w3 ⟨v3, F3, rfl, o3, n3, x3⟩
    go_wp2_with fail
    refine (impl_PositiveComponents v3 (mustM k l) w3 o3.sl).mono ?_
    rintro e w4 ⟨v4, F4, rfl, o4, n4, x4, _⟩
    rw [show mustM k l = mustM ((k : Int)).toNat l from by rw [Int.toNat_natCast], HP.out] at o4
    go_wp2
    go_ret
    exact ⟨_, F4, rfl, o4, n4.ext (x2.trans x3), (x2.trans x3).trans x4, fun h => by cases h⟩

set_option maxHeartbeats 400000 in
set_option maxRecDepth 20000 in
theorem slices_IndexFunc_kF (u : Value) (p : Constraint → Bool) (v : Value) (xs : List Constraint) (w : World) (h : Sl constraintR w v xs)
    (hf : ∀ W, Ext w W → ∀ c ∈ xs, Calls Tryz.prog 136 #[.agg #[.int .i64 c.a, .int .i64 c.b, .bool c.same], u] W fun e w2 => e = .returned (.bool (p c)) ∧ Ext W w2) :
    Calls Tryz.prog 134 #[v, .func (.func 136) #[] #[u]] w fun e w2 =>
      e = .returned (.int .i64 (idxF p 0 xs)) ∧ Ext w w2 := by
  obtain ⟨A, cap, rfl, hm⟩ := h.form
  have HF := hid hf
  clear hf
  go_enter Tryz.func134, Tryz.ntmps134
  go_wp2
  go_loopw [8] (fun i wr => ∃ k : Nat, k ≤ xs.length ∧ i = .int .i64 k ∧ (∀ y ∈ xs.take k, p y = false) ∧ Ext w wr) (fun i _ => xs.length - (intOf i).toNat)
  case atStart => exact ⟨0, Nat.zero_le _, rfl, by simp, Ext.refl _⟩
  case round =>
    obtain ⟨k, hk, rfl, hz, hx⟩ := hrel
    have HZ := hid hz
    clear hz
    by_cases hlt : k < xs.length
    · obtain ⟨b, off, eA, hokk, c0, c1, c2⟩ := (h.mono hx).constraint hlt
      subst eA
      obtain ⟨r, hr⟩ : ∃ r, r = p xs[k] := ⟨_, rfl⟩
      have HC := hid (show Calls Tryz.prog 136 #[.agg #[.int .i64 xs[k].a, .int .i64 xs[k].b, .bool xs[k].same], u] wr fun e w2 => e = .returned (.bool r) ∧ Ext wr w2 from by rw [hr]; exact HF.out wr hx xs[k] (List.getElem_mem hlt))
      have HR := hid hr
      clear hr hokk
      cases r with
      | true =>
        go_wp2_with (go_at_call 136; refine (HC.out).mono ?_; rintro e w2 ⟨rfl, x2⟩)
        go_ret
        exact ⟨ret_int (idxF_at p xs k hlt HZ.out HR.out.symm).symm, hx.trans x2⟩
      | false =>
        go_wp2_with (go_at_call 136; refine (HC.out).mono ?_; rintro e w2 ⟨rfl, x2⟩)
        go_roundw
        case rel => exact ⟨k + 1, by omega, by go_num, take_snoc_all _ xs k hlt HZ.out HR.out.symm, hx.trans x2⟩
        case measure => simp [intOf]; omega
    · go_wp2
      go_ret
      exact ⟨ret_int (idxF_all p xs k hlt HZ.out).symm, hx⟩


set_option maxHeartbeats 400000 in
set_option maxRecDepth 20000 in
theorem impl_FindConflict (n : Int) (v : Value) (l : List Constraint) (w : World) (h : Sl constraintR w v l) :
    Calls Tryz.prog 122 #[.int .i64 n, v] w fun e w2 => e = .returned (.int .i64 (findC n l)) ∧ Ext w w2 := by
  have HC := hid (impl_MustClosure n v l w h)
  obtain ⟨A, cap, rfl, hm⟩ := h.form
  have q := fun (W : World) (a : Option Addr) (n c n' c' : Nat) => Lib.run_eql_slice_nil (P := Tryz.prog) W 28 3 a n c n' c' Tryz.underlying28
  cases hc : areConB n l with
  | false =>
    have HF := hid (show findC n l = -1 from by unfold findC; rw [hc]; rfl)
    have HCC := hid hc
    clear hc h
    go_enter Tryz.func122, Tryz.ntmps122
    go_wp2_with fail
    refine (HC.out).mono ?_
    rintro e w2 ⟨v2, F2, rfl, o2, n2, x2, hnil⟩
    have e9 := hnil HCC.out
    subst e9
    clear hnil o2 n2
    go_wp2
    go_ret
    exact ⟨ret_int HF.out.symm, x2.alloc _⟩
  | true =>
    have HF := hid (show findC n l = idxF (cutB (mustL n l)) 0 l from by unfold findC; rw [hc]; rfl)
    have hpl := mustL_len hc
    obtain ⟨h1, h8, _, h4⟩ := areCon_iff.1 hc
    have HL := hid (And.intro hpl (And.intro h1 h4))
    clear hc hpl h1 h8 h4
    go_enter Tryz.func122, Tryz.ntmps122
    go_wp2_with fail
    refine (HC.out).mono ?_
    rintro e w2 ⟨v2, F2, rfl, o2, n2, x2, hnil⟩
    have hS := o2.sl
    obtain ⟨A2, c2, e2, _⟩ := hS.form
    have hA2 : ∃ b off, A2 = some ⟨b, off, none⟩ := by
      rw [e2] at hS
      have := HL.out
      obtain ⟨b, off, e9, _⟩ := hS.int (i := 0) (by omega)
      exact ⟨b, off, e9⟩
    obtain ⟨b2, off2, rfl⟩ := hA2
    obtain ⟨parts, hp⟩ : ∃ p, p = mustL n l := ⟨_, rfl⟩
    rw [← hp] at e2 hS HF HL
    subst e2
    have xa : Ext w2 (w2.alloc (.cells #[.slice (some ⟨b2, off2, none⟩) parts.length c2] 28)) := (Ext.refl _).alloc _
    have HI := hid (slices_IndexFunc_kF (.pointer (some ⟨w2.heap.size, 0, none⟩)) (cutB parts) _ l _ (h.mono (x2.trans xa)) fun W y c hc => impl_FindC1 c w2.heap.size (some ⟨b2, off2, none⟩) c2 parts W (y.box.1 0) (hS.mono (xa.trans y)) (by have := HL.out.2.2 c hc; have := HL.out.1; omega) (by have := HL.out.2.2 c hc; have := HL.out.1; omega))
    clear hnil hp o2 n2 hS
    go_wp2_with fail
    refine (HI.out).mono ?_
    rintro e w3 ⟨rfl, x3⟩
    go_wp2
    go_ret
    exact ⟨ret_int HF.out.symm, (x2.trans xa).trans x3⟩

set_option maxHeartbeats 400000 in
theorem impl_IsConsistent (n : Int) (v : Value) (l : List Constraint) (w : World) (h : Sl constraintR w v l) :
    Calls Tryz.prog 82 #[.int .i64 n, v] w fun e w2 => e = .returned (.bool (consistB n l)) ∧ Ext w w2 := by
  have HC := hid (impl_AreConstraints n v l w h)
  have HF := hid (fun (W : World) (y : Ext w W) => impl_FindConflict n v l W (h.mono y))
  obtain ⟨A, cap, rfl, hm⟩ := h.form
  have HV := hid (show consistB n l = (areConB n l && decide (findC n l < 0)) from rfl)
  cases hc : areConB n l with
  | false =>
    rw [hc] at HC HV
    clear hc
    go_enter Tryz.func82, Tryz.ntmps82
    go_wp2_with fail
    refine (HC.out).mono ?_
    rintro e w2 ⟨rfl, x2⟩
    go_wp2
    go_ret
    exact ⟨ret_bool (by rw [HV.out]; rfl), x2⟩
  | true =>
    rw [hc] at HC HV
    clear hc
    obtain ⟨f, hf⟩ : ∃ f, f = findC n l := ⟨_, rfl⟩
    rw [← hf] at HF HV
    clear hf
    go_enter Tryz.func82, Tryz.ntmps82
    go_wp2_with fail
    refine (HC.out).mono ?_
    rintro e w2 ⟨rfl, x2⟩
    go_wp2_with fail
    refine (HF.out w2 x2).mono ?_
    rintro e w3 ⟨rfl, x3⟩
    go_wp2
    go_ret
    exact ⟨ret_bool (by rw [HV.out, Bool.true_and]), x2.trans x3⟩
end Go.Proofs.YtidchfncfcckiaaGreat
