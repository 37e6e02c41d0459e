/-
  SEVERAL SMALL TEXTS LAID TOGETHER: SchI, SubI, TriJ, PackI, TriS, GreI, UsdS, TrjS.
-/
import Derived.Test.YtidchfncfcckiaaGreatMgEndClu4
import Derived.Test.YtidchfncfcckiaaGreatMgEndClu5
import Derived.Test.YtidchfncfcckiaaGreatMgEndClu2
import Derived.Test.YtidchfncfcckiaaGreatMgEndClu0
import Derived.Deep.RegionHeld3
import Derived.Test.YtidchfncfcckiaaGreatMgEndClu3

namespace Go.Proofs.YtidchfncfcckiaaGreat
open Go.RowKit

theorem JoinM.start (a b : List Int) : JoinM a b 0 0 (sqM a.length) := ⟨sqM_sq _, fun i k hi hk => .inr ⟨sqM_ent hi hk, fun h => by omega⟩⟩
theorem JoinM.yes {a b : List Int} {i k : Nat} {M : List (List Int)} (h : JoinM a b i k M) (hi : i < a.length) (hk : k < a.length) (hne : i ≠ k) (hj : joinR a b i k) : JoinM a b i (k + 1) (setE M i k 1) := by
  have hs : Sq a.length M := h.1
  refine ⟨hs.set hi _, fun x y hx hy => ?_⟩
  rw [ent_set hs hi hk]
  by_cases e : x = i ∧ y = k
  · obtain ⟨rfl, rfl⟩ := e
    rw [if_pos ⟨rfl, rfl⟩]
    exact .inl ⟨rfl, .inr ⟨rfl, by omega⟩, hne, hj⟩
  · rw [if_neg e]
    rcases h.2 x y hx hy with ⟨h1, h2, h3⟩ | ⟨h1, h2⟩
    · exact .inl ⟨h1, by omega, h3⟩
    · exact .inr ⟨h1, fun h9 => h2 ⟨by have := h9.1; omega, h9.2⟩⟩
theorem JoinM.no {a b : List Int} {i k : Nat} {M : List (List Int)} (h : JoinM a b i k M) (hn : ¬ (i ≠ k ∧ joinR a b i k)) : JoinM a b i (k + 1) M := by
  refine ⟨h.1, fun x y hx hy => ?_⟩
  rcases h.2 x y hx hy with ⟨h1, h2, h3⟩ | ⟨h1, h2⟩
  · exact .inl ⟨h1, by omega, h3⟩
  · refine .inr ⟨h1, fun h9 => ?_⟩
    by_cases e : x = i ∧ y = k
    · obtain ⟨rfl, rfl⟩ := e
      exact hn h9.2
    · exact h2 ⟨by have := h9.1; omega, h9.2⟩
theorem JoinM.next {a b : List Int} {i : Nat} {M : List (List Int)} (h : JoinM a b i a.length M) : JoinM a b (i + 1) 0 M := by
  refine ⟨h.1, fun x y hx hy => ?_⟩
  rcases h.2 x y hx hy with ⟨h1, h2, h3⟩ | ⟨h1, h2⟩
  · exact .inl ⟨h1, by omega, h3⟩
  · exact .inr ⟨h1, fun h9 => h2 ⟨by have := h9.1; omega, h9.2⟩⟩

set_option maxHeartbeats 4000000 in
set_option maxRecDepth 20000 in
theorem impl_JoinPartitions (v u : Value) (a b : List Int) (w : World) (h : Sl intR w v a) (k : Sl intR w u b) (hab : twoB a b) :
    Calls Tryz.prog 56 #[v, u] w fun e w2 => ∃ v2 F, e = .returned v2 ∧ OwnSl intO w2 v2 (joinP a b) F ∧ NewF w F ∧ Ext w w2 := by
  have HA := hid (impl_arePartitions v u a b w h k)
  rw [twoC_iff.2 hab] at HA
  obtain ⟨h1, h8⟩ := (partB_iff.1 hab.1).2
  have HAB := hid hab
  obtain ⟨A, cap, rfl, hm1⟩ := h.form
  obtain ⟨B, cap2, rfl, hm2⟩ := k.form
  have HH := hid h
  have HK := hid k
  have HSQ := hid (impl_square a.length w (by omega))
  have HBL := hid hab.2.2
  clear h k hab
  go_enter Tryz.func56, Tryz.ntmps56
  go_wp2_with fail
  refine (HA.out).mono ?_
  rintro e w0 ⟨rfl, rfl⟩
  go_wp2_with fail
  refine (HSQ.out).mono ?_
  rintro e w1 ⟨v1, F1, rfl, o1, n1, x1⟩
  obtain ⟨G0, O0, c1, b0, o0, cpb0, e1, k1, k2, k3, k4, k5, k6⟩ := o1.ints_store n1.1 (i := 0) (s := 0) (by rw [List.length_replicate]; exact h1) (by rw [List.getElem_replicate, List.length_replicate]; exact h1)
  clear k1 k2 k3 k4 k5 k6
  rw [List.length_replicate] at e1
  subst e1
  have HO1 := hid (show OwnSl (slO intO) w1 (.slice (some ⟨G0, O0, none⟩) a.length c1) (sqM a.length) F1 from o1)
  have HF1 := hid n1
  have HX1 := hid x1
  have HN18 := hid (And.intro h1 h8)
  clear o1 n1 x1 h1 h8
  go_wp2_with fail
  go_loopw [17] (fun t wr => ∃ (i : Nat) (M : List (List Int)), i ≤ a.length ∧ t = .int .i64 i ∧ JoinM a b i 0 M ∧ OwnSl (slO intO) wr (.slice (some ⟨G0, O0, none⟩) a.length c1) M F1 ∧ Ext w wr) (fun t _ => a.length - (intOf t).toNat)
  case atStart => exact ⟨0, _, Nat.zero_le _, rfl, JoinM.start a b, HO1.out, HX1.out⟩
  case round =>
    clear HO1 HX1
    obtain ⟨i, M, hi, rfl, hS, hO, hx⟩ := hrel
    by_cases hlt : i < a.length
    · have HO := hid hO
      have HS := hid hS
      have HX := hid hx
      clear hS hO hx
      go_wp2_with fail
      go_loopw [22] (fun t wr => ∃ (q : Nat) (M : List (List Int)), q ≤ a.length ∧ t = .int .i64 q ∧ JoinM a b i q M ∧ OwnSl (slO intO) wr (.slice (some ⟨G0, O0, none⟩) a.length c1) M F1 ∧ Ext w wr) (fun t _ => a.length - (intOf t).toNat)
      case atStart => exact ⟨0, M, Nat.zero_le _, rfl, HS.out, HO.out, HX.out⟩
      case round =>
        clear HO HS HX
        obtain ⟨q, M, hq, rfl, hS, hO, hx⟩ := hrel
        by_cases hlq : q < a.length
        · have hib : i < b.length := by have := HBL.out; omega
          have hqb : q < b.length := by have := HBL.out; omega
          obtain ⟨bA, oA, eA, _, a1⟩ := (HH.out.mono hx).int hlt
          subst eA
          obtain ⟨bA2, oA2, eA, _, a2⟩ := (HH.out.mono hx).int hlq
          injection eA with e9
          injection e9 with e8 e7 q3
          clear q3
          subst e8; subst e7
          obtain ⟨bB, oB, eB, _, b1⟩ := (HK.out.mono hx).int hib
          subst eB
          obtain ⟨bB2, oB2, eB, _, b2⟩ := (HK.out.mono hx).int hqb
          injection eB with e9
          injection e9 with e8 e7 q3
          clear q3
          subst e8; subst e7
          have HJ := hid (show joinR a b i q ↔ (a[i] = a[q] ∨ b[i] = b[q]) from by
            unfold joinR
            rw [getD_getElem hlt, getD_getElem hlq, getD_getElem hib, getD_getElem hqb]
            exact ⟨fun h => h.2.2, fun h => ⟨hlt, hlq, h⟩⟩)
          have y1 : ∀ z : ExtOf wr, z.1.cell? ⟨bA, oA + i, none⟩ = _ := fun z => z.2.cell a1
          have y2 : ∀ z : ExtOf wr, z.1.cell? ⟨bA, oA + q, none⟩ = _ := fun z => z.2.cell a2
          have y3 : ∀ z : ExtOf wr, z.1.cell? ⟨bB, oB + i, none⟩ = _ := fun z => z.2.cell b1
          have y4 : ∀ z : ExtOf wr, z.1.cell? ⟨bB, oB + q, none⟩ = _ := fun z => z.2.cell b2
          have hil : (i : Int) < (b.length : Int) := by omega
          have hql : (q : Int) < (b.length : Int) := by omega
          obtain ⟨p1, hp1⟩ : ∃ p, p = a[i] := ⟨_, rfl⟩
          obtain ⟨p2, hp2⟩ : ∃ p, p = a[q] := ⟨_, rfl⟩
          obtain ⟨p3, hp3⟩ : ∃ p, p = b[i] := ⟨_, rfl⟩
          obtain ⟨p4, hp4⟩ : ∃ p, p = b[q] := ⟨_, rfl⟩
          rw [← hp1] at HJ y1
          rw [← hp2] at HJ y2
          rw [← hp3] at HJ y3
          rw [← hp4] at HJ y4
          clear a1 a2 b1 b2 hp1 hp2 hp3 hp4
          have HO := hid hO
          have HS := hid hS
          have HX := hid hx
          by_cases hc : i ≠ q ∧ joinR a b i q
          · have hMl := hS.1.1
            have hMr := hS.1.2 i hlt
            rw [getD_getElem (show i < M.length by omega)] at hMr
            have HST := hid (hS.yes hlt hlq hc.1 hc.2)
            have hne : ((i : Int) != (q : Int)) = true := by rw [bne_iff_ne]; have := hc.1; omega
            have hcase : (p1 == p2) = true ∨ ((p1 == p2) = false ∧ (p3 == p4) = true) := by
              by_cases h9 : p1 = p2
              · exact .inl (by simp [h9])
              · exact .inr ⟨by simp [h9], by rcases HJ.out.1 hc.2 with h | h; exact absurd h h9; simp [h]⟩
            have HIQ := hid hc
            clear hc hS hO hx
            have HFIN := hid (show ∀ W, Ext wr W → ∃ b1 o1 cp1 u, W.cell? ⟨G0, O0 + i, none⟩ = some (.slice (some ⟨b1, o1, none⟩) a.length cp1) ∧ W.cell? ⟨b1, o1 + q, none⟩ = some u ∧ W.frozen? ⟨b1, o1 + q, none⟩ = false ∧ OwnSl (slO intO) (W.setCell ⟨b1, o1 + q, none⟩ (.int .i64 1)) (.slice (some ⟨G0, O0, none⟩) a.length c1) (setE M i q 1) F1 ∧ Ext w (W.setCell ⟨b1, o1 + q, none⟩ (.int .i64 1)) from fun W y => by
              obtain ⟨g, off2, cp, b1, o1, cp1, eV, ca, hbF, hgb, cell1, fr1, st1⟩ := (HO.out.ext y).ints_store HF1.out.1 (i := i) (s := q) (by omega) (by omega)
              rw [hMl] at eV
              injection eV with e9 q1 q2
              clear q1 q2
              injection e9 with e9
              injection e9 with e8 e7 q3
              clear q3
              subst e8; subst e7
              rw [hMr] at ca
              have hO2 := st1 1 (by unfold I64; omega)
              have hM2 : setE M i q 1 = M.set i (M[i].set q 1) := by unfold setE; rw [getD_getElem (show i < M.length by omega)]
              rw [← hM2] at hO2
              have hbW : w.heap.size ≤ b1 := HF1.out.2 b1 hbF
              exact ⟨b1, o1, cp1, _, ca, cell1, fr1, hO2, (HX.out.trans y).setCell (p := ⟨b1, o1 + q, none⟩) hbW (.int .i64 1)⟩)
            clear hMl hMr
            rcases hcase with hd | ⟨hd, hd2⟩
            · go_wp2_with fail
              refine wp_region_ext (by kernel_rfl) (by kernel_rfl) ?_
              repeat (go_big_quiet_step ((fail)))
              refine wpQuiet_nil ?_
              rintro w5 ⟨⟨_, x5⟩, rfl⟩
              obtain ⟨b1, o1, cp1, u1, ca, cell1, fr1, hO2, hx2⟩ := HFIN.out _ x5
              have HO2 := hid hO2
              have HX2 := hid hx2
              clear hO2 hx2 y1 y2 y3 y4 x5
              go_wp2
              go_roundw
              case rel => exact ⟨q + 1, _, by omega, by go_num, HST.out, HO2.out, HX2.out⟩
              case measure => simp [intOf]; omega
            · go_wp2_with fail
              refine wp_region_ext (by kernel_rfl) (by kernel_rfl) ?_
              repeat (go_big_quiet_step ((fail)))
              refine wpQuiet_nil ?_
              rintro w5 ⟨⟨_, x5⟩, rfl⟩
              obtain ⟨b1, o1, cp1, u1, ca, cell1, fr1, hO2, hx2⟩ := HFIN.out _ x5
              have HO2 := hid hO2
              have HX2 := hid hx2
              clear hO2 hx2 y1 y2 y3 y4 x5
              go_wp2
              go_roundw
              case rel => exact ⟨q + 1, _, by omega, by go_num, HST.out, HO2.out, HX2.out⟩
              case measure => simp [intOf]; omega
          · have HST := hid (hS.no hc)
            have hcase : ((i : Int) != (q : Int)) = false ∨ (((i : Int) != (q : Int)) = true ∧ (p1 == p2) = false ∧ (p3 == p4) = false) := by
              by_cases h9 : i = q
              · exact .inl (by simp [h9])
              · refine .inr ⟨by rw [bne_iff_ne]; omega, ?_⟩
                have hnj : ¬ (p1 = p2 ∨ p3 = p4) := fun h => hc ⟨h9, HJ.out.2 h⟩
                exact ⟨by simp; exact fun h => hnj (.inl h), by simp; exact fun h => hnj (.inr h)⟩
            clear hc hS hO hx
            rcases hcase with hd | ⟨hd, hd2, hd3⟩
            · go_wp2_with fail
              refine wp_region_ext (by kernel_rfl) (by kernel_rfl) ?_
              repeat (go_big_quiet_step ((fail)))
              refine wpQuiet_nil ?_
              rintro w5 ⟨⟨_, x5⟩, rfl⟩
              go_wp2
              go_roundw
              case rel => exact ⟨q + 1, M, by omega, by go_num, HST.out, HO.out.ext x5, HX.out.trans x5⟩
              case measure => simp [intOf]; omega
            · go_wp2_with fail
              refine wp_region_ext (by kernel_rfl) (by kernel_rfl) ?_
              repeat (go_big_quiet_step ((fail)))
              refine wpQuiet_nil ?_
              rintro w5 ⟨⟨_, x5⟩, rfl⟩
              go_wp2
              go_roundw
              case rel => exact ⟨q + 1, M, by omega, by go_num, HST.out, HO.out.ext x5, HX.out.trans x5⟩
              case measure => simp [intOf]; omega
        · have hqn : q = a.length := by omega
          subst hqn
          have HS := hid hS.next
          have HO := hid hO
          clear hS hO
          go_wp2
          go_roundw
          case rel => exact ⟨i + 1, M, by omega, by go_num, HS.out, HO.out, hx⟩
          case measure => simp [intOf]; omega
    · have hin : i = a.length := by omega
      subst hin
      obtain ⟨f1, f2⟩ := hS.fin HN18.out.1 HN18.out.2
      have HM2 := hid (show posC M = joinP a b from by rw [f2, joinP_yes HAB.out])
      have HML := hid hS.1.1
      have HPC := hid (impl_PositiveComponents _ M wr hO.sl)
      clear hS hO f1 f2
      go_wp2_with fail
      refine (HPC.out).mono ?_
      rintro e w3 ⟨v3, F3, rfl, o3, n3, x3, _⟩
      rw [HM2.out] at o3
      go_wp2
      go_ret
      exact ⟨v3, F3, rfl, o3, n3.ext hx, hx.trans x3⟩

set_option maxHeartbeats 1000000 in
set_option maxRecDepth 20000 in
theorem impl_SearchParts (v u : Value) (m : List (List Int)) (l : List Constraint) (w : World) (h : Sl (slR intR) w v m) (k : Sl constraintR w u l) :
    Calls Tryz.prog 9 #[v, u] w fun e w2 => ∃ v2 F, e = .returned v2 ∧ OwnSl intO w2 v2 (searchP m l) F ∧ NewF w F ∧ Ext w w2 := by
  have HA := hid (impl_IsWeightMatrix v m w h)
  have HB := hid (impl_AreConstraints m.length u l w k)
  have HP := hid (fun (W : World) (y : Ext w W) => impl_PositiveComponents v m W (h.mono y))
  have HQ := hid (fun (W : World) (y : Ext w W) => impl_MustClosure m.length u l W (k.mono y))
  obtain ⟨A, cap, rfl, hm1⟩ := h.form
  obtain ⟨B, cap2, rfl, hm2⟩ := k.form
  have HNO := hid (@searchP_no m l)
  have HY1 := hid (@searchP_yes m l)
  have HY2 := hid (@two_parts m l)
  clear h k
  obtain ⟨p, hp⟩ : ∃ p, p = wmB m := ⟨_, rfl⟩
  obtain ⟨q, hq⟩ : ∃ q, q = areConB m.length l := ⟨_, rfl⟩
  rw [← hp] at HA HNO HY1 HY2
  rw [← hq] at HB HNO HY1 HY2
  clear hp hq
  cases p with
  | false =>
    have HR := hid (HNO.out (by simp))
    go_enter Tryz.func9, Tryz.ntmps9
    go_wp2_with fail
    refine (HA.out).mono ?_
    rintro e w2 ⟨rfl, rfl⟩
    go_wp2
    go_ret
    exact ⟨_, [], rfl, by rw [HR.out]; exact .inl ⟨rfl, rfl, none, 0, rfl, Nat.zero_le _⟩, .nil _, Ext.refl _⟩
  | true =>
    cases q with
    | false =>
      have HR := hid (HNO.out (by simp))
      go_enter Tryz.func9, Tryz.ntmps9
      go_wp2_with fail
      refine (HA.out).mono ?_
      rintro e w2 ⟨rfl, rfl⟩
      go_wp2_with fail
      refine (HB.out).mono ?_
      rintro e w2 ⟨rfl, x2⟩
      go_wp2
      go_ret
      exact ⟨_, [], rfl, by rw [HR.out]; exact .inl ⟨rfl, rfl, none, 0, rfl, Nat.zero_le _⟩, .nil _, x2⟩
    | true =>
      have HR := hid (HY1.out rfl rfl)
      have HT := hid (HY2.out rfl rfl)
      go_enter Tryz.func9, Tryz.ntmps9
      go_wp2_with fail
      refine (HA.out).mono ?_
      rintro e w2 ⟨rfl, rfl⟩
      go_wp2_with fail
      refine (HB.out).mono ?_
      rintro e w2 ⟨rfl, x2⟩
      go_wp2_with fail
      refine (HP.out _ x2).mono ?_
      rintro e w3 ⟨v3, F3, rfl, o3, n3, x3, _⟩
      go_wp2_with fail
      refine (HQ.out _ (x2.trans x3)).mono ?_
      rintro e w4 ⟨v4, F4, rfl, o4, n4, x4, _⟩
      have HJ := hid (impl_JoinPartitions v3 v4 _ _ w4 (o3.ext x4).sl o4.sl HT.out)
      go_wp2_with fail
      refine (HJ.out).mono ?_
      rintro e w5 ⟨v5, F5, rfl, o5, n5, x5⟩
      go_wp2
      go_ret
      exact ⟨v5, F5, rfl, by rw [HR.out]; exact o5, n5.ext (x2.trans (x3.trans x4)), x2.trans (x3.trans (x4.trans x5))⟩

set_option maxHeartbeats 400000 in
theorem impl_canCluster (v u : Value) (m : List (List Int)) (l : List Constraint) (w : World) (h : Sl (slR intR) w v m) (k : Sl constraintR w u l) :
    Calls Tryz.prog 31 #[v, u] w fun e w2 => e = .returned (.bool (wmB m && consistB m.length l)) ∧ Ext w w2 := by
  have HA := hid (impl_IsWeightMatrix v m w h)
  have HB := hid (impl_IsConsistent m.length u l w k)
  obtain ⟨A, cap, rfl, hm1⟩ := h.form
  obtain ⟨B, cap2, rfl, hm2⟩ := k.form
  clear h k
  obtain ⟨p, hp⟩ : ∃ p, p = wmB m := ⟨_, rfl⟩
  obtain ⟨q, hq⟩ : ∃ q, q = consistB m.length l := ⟨_, rfl⟩
  rw [← hp] at HA ⊢
  rw [← hq] at HB ⊢
  clear hp hq
  cases p with
  | false =>
    go_enter Tryz.func31, Tryz.ntmps31
    go_wp2_with fail
    refine (HA.out).mono ?_
    rintro e w2 ⟨rfl, rfl⟩
    go_wp2
    go_ret
    exact ⟨rfl, Ext.refl _⟩
  | true =>
    go_enter Tryz.func31, Tryz.ntmps31
    go_wp2_with fail
    refine (HA.out).mono ?_
    rintro e w2 ⟨rfl, rfl⟩
    go_wp2_with fail
    refine (HB.out).mono ?_
    rintro e w2 ⟨rfl, x2⟩
    go_wp2
    go_ret
    exact ⟨ret_bool (by rw [Bool.true_and]), x2⟩
end Go.Proofs.YtidchfncfcckiaaGreat

namespace Go.Proofs.YtidchfncfcckiaaGreat
open Go.RowKit

set_option maxHeartbeats 4000000 in
set_option maxRecDepth 20000 in
theorem impl_subMatrix (v u : Value) (m : List (List Int)) (it : List Int) (w : World) (h : Sl (slR intR) w v m) (k : Sl intR w u it) (hm : WM m) (hi : ItemsB m.length it) :
    Calls Tryz.prog 34 #[v, u] w fun e w2 => ∃ v2 F, e = .returned v2 ∧ OwnSl (slO intO) w2 v2 (subM m it) F ∧ NewF w F ∧ Ext w w2 := by
  obtain ⟨A, cap, rfl, hm1⟩ := h.form
  obtain ⟨B, cap2, rfl, hm2⟩ := k.form
  have h8 := hm.n8
  have hl := hi.len
  have h1 := hi.n1
  have HM := hid hm
  have HI := hid hi
  have HH := hid h
  have HK := hid k
  have HSQ := hid (impl_square it.length w (by omega))
  obtain ⟨n, hn⟩ : ∃ n, n = it.length := ⟨_, rfl⟩
  have HN := hid hn
  have HN8 := hid (show it.length ≤ 8 by omega)
  clear hm hi h k h8 hl hn
  go_enter Tryz.func34, Tryz.ntmps34
  go_wp2_with fail
  refine (HSQ.out).mono ?_
  rintro e w1 ⟨v1, F1, rfl, o1, n1, x1⟩
  obtain ⟨G0, O0, c1, b0, o0, cpb0, e1, k1, k2, k3, k4, k5, k6⟩ := o1.ints_store n1.1 (i := 0) (s := 0) (by rw [List.length_replicate]; exact h1) (by rw [List.getElem_replicate, List.length_replicate]; exact h1)
  clear k1 k2 k3 k4 k5 k6
  rw [List.length_replicate] at e1
  subst e1
  have HO1 := hid (show OwnSl (slO intO) w1 (.slice (some ⟨G0, O0, none⟩) it.length c1) (sqM it.length) F1 from o1)
  have HF1 := hid n1
  have HX1 := hid x1
  clear o1 n1 x1
  go_wp2_with fail
  go_loopw [15] (fun t wr => ∃ (i : Nat) (M : List (List Int)), i ≤ it.length ∧ t = .int .i64 i ∧ SubTo m it i 0 M ∧ OwnSl (slO intO) wr (.slice (some ⟨G0, O0, none⟩) it.length c1) M F1 ∧ Ext w wr) (fun t _ => it.length - (intOf t).toNat)
  case atStart => exact ⟨0, _, Nat.zero_le _, rfl, SubTo.start m it, HO1.out, HX1.out⟩
  case round =>
    clear HO1 HX1
    obtain ⟨i, M, hi, rfl, hS, hO, hx⟩ := hrel
    by_cases hlt : i < it.length
    · obtain ⟨bB, oB, rfl, _, hc⟩ := (HK.out.mono hx).int hlt
      have hbx := HI.out.bd i hlt
      obtain ⟨x, hxe⟩ : ∃ x : Nat, it.getD i 0 = x := ⟨(it.getD i 0).toNat, by omega⟩
      have hxe2 : it[i] = (x : Int) := by rw [← getD_getElem (d := 0) hlt]; exact hxe
      rw [hxe2] at hc
      have hxm : x < m.length := by omega
      have HXE := hid hxe
      have HO := hid hO
      have HS := hid hS
      have HX := hid hx
      obtain ⟨bm, om, Ar, cr, eA, hrow, cm⟩ := HH.out.sl hxm
      have hrl : m[x].length = m.length := by have := HM.out.row x hxm; rwa [row_at hxm] at this
      obtain ⟨br, or, eAr, k1, k2⟩ := hrow.int (i := 0) (by omega)
      clear k1 k2
      subst eAr
      subst eA
      rw [hrl] at cm
      have HRL := hid hrl
      have HROW := hid hrow
      have HCM := hid cm
      clear hxe hxe2 hbx hS hO hx hrl hrow cm
      go_wp2_with fail
      go_loopw [22] (fun t wr => ∃ (q : Nat) (M : List (List Int)), q ≤ it.length ∧ t = .int .i64 q ∧ SubTo m it i q M ∧ OwnSl (slO intO) wr (.slice (some ⟨G0, O0, none⟩) it.length c1) M F1 ∧ Ext w wr) (fun t _ => it.length - (intOf t).toNat)
      case atStart => exact ⟨0, M, Nat.zero_le _, rfl, HS.out, HO.out, HX.out⟩
      case round =>
        clear hc HO HS HX
        obtain ⟨q, M, hq, rfl, hS, hO, hx⟩ := hrel
        by_cases hlq : q < it.length
        · obtain ⟨bB2, oB2, eB, _, hc⟩ := (HK.out.mono hx).int hlq
          injection eB with e9
          injection e9 with e8 e7 q3
          clear q3
          subst e8; subst e7
          have hby := HI.out.bd q hlq
          obtain ⟨y, hye⟩ : ∃ y : Nat, it.getD q 0 = y := ⟨(it.getD q 0).toNat, by omega⟩
          have hye2 : it[q] = (y : Int) := by rw [← getD_getElem (d := 0) hlq]; exact hye
          rw [hye2] at hc
          have hym : y < m.length := by omega
          have hyr : y < m[x].length := by have := HRL.out; omega
          obtain ⟨br2, or2, eAr, hI, cr20⟩ := HROW.out.int hyr
          injection eAr with e9
          injection e9 with e8 e7 q3
          clear q3
          subst e8; subst e7
          have HST := hid (hS.step hlt hlq)
          rw [HXE.out, hye, Int.toNat_natCast, Int.toNat_natCast, ent_at hxm hyr] at HST
          obtain ⟨z, hz⟩ : ∃ z, z = m[x][y] := ⟨_, rfl⟩
          rw [← hz] at HST cr20 hI
          have hMl := hS.1.1
          have hMr := hS.1.2 i hlt
          rw [getD_getElem (show i < M.length by omega)] at hMr
          obtain ⟨g, off2, cp, b1, o1, cp1, eV, ca, hbF, hgb, cell1, fr1, st1⟩ := hO.ints_store HF1.out.1 (i := i) (s := q) (by omega) (by omega)
          rw [hMl] at eV
          injection eV with e9 q1 q2
          clear q1 q2
          injection e9 with e9
          injection e9 with e8 e7 q3
          clear q3
          subst e8; subst e7
          rw [hMr] at ca
          have hO2 := st1 z hI
          have hM2 : setE M i q z = M.set i (M[i].set q z) := by unfold setE; rw [getD_getElem (show i < M.length by omega)]
          rw [← hM2] at hO2
          have HO2 := hid hO2
          have hbW : w.heap.size ≤ b1 := HF1.out.2 b1 hbF
          have HX2 := hid (hx.setCell (p := ⟨b1, o1 + q, none⟩) hbW (.int .i64 z))
          have hbm : bm ≠ b1 := fun e => by have := World.block_lt_of_cell? w _ HCM.out; dsimp only at this; omega
          have hbr : br ≠ b1 := fun e => by have := World.block_lt_of_cell? w _ cr20; dsimp only at this; omega
          have cm := hx.cell HCM.out
          have cr2 := hx.cell cr20
          have HSF := hid (show ∀ (W : World), Agree wr W b1 → W.cell? ⟨G0, O0 + i, none⟩ = some (.slice (some ⟨b1, o1, none⟩) it.length cp1) ∧ W.cell? ⟨bm, om + x, none⟩ = some (.slice (some ⟨br, or, none⟩) m.length cr) ∧ W.cell? ⟨br, or + y, none⟩ = some (.int .i64 z) from fun W y => ⟨y.cell hgb ca, y.cell hbm cm, y.cell hbr cr2⟩)
          have hu1 : ∃ u, wr.cell? ⟨b1, o1 + q, none⟩ = some u := ⟨_, cell1⟩
          clear cell1
          obtain ⟨u1, cell1⟩ := hu1
          clear hS hO hx hye hye2 hby cr20 hz hMl hMr hO2 hM2 hbF hbW hgb hbm hbr cm cr2 ca st1 hI
          go_wp2_with fail
          go_region_held3 (fun w' => w'.cell? ⟨G0, O0 + i, none⟩ = some (.slice (some ⟨b1, o1, none⟩) it.length cp1) ∧ w'.cell? ⟨bm, om + x, none⟩ = some (.slice (some ⟨br, or, none⟩) m.length cr) ∧ w'.cell? ⟨br, or + y, none⟩ = some (.int .i64 z)) (first | exact HSF.out _ (fun _ _ => rfl) | exact HSF.out _ (Agree.set (fun _ _ => rfl))) (fail)
          all_goals
            go_wp2
            go_roundw
            case rel => exact ⟨q + 1, _, by omega, by go_num, HST.out, HO2.out.ext (Ext.refl _).drew, HX2.out.drew⟩
            case measure => simp [intOf]; omega
        · have hqn : q = it.length := by omega
          subst hqn
          have HS := hid hS.next
          have HO := hid hO
          clear hS hO
          go_wp2
          go_roundw
          case rel => exact ⟨i + 1, M, by omega, by go_num, HS.out, HO.out, hx⟩
          case measure => simp [intOf]; omega
    · have hin : i = it.length := by omega
      subst hin
      have HM2 := hid hS.fin
      have HO := hid hO
      clear hS hO
      go_wp2
      go_ret
      exact ⟨_, F1, rfl, by rw [← HM2.out]; exact HO.out, HF1.out, hx⟩
end Go.Proofs.YtidchfncfcckiaaGreat

namespace Go.Proofs.YtidchfncfcckiaaGreat
open Go.RowKit

theorem infoTri : (Tryz.prog.info? 91).map (fun i => (i.zero, i.size, i.bytes)) = some (some (.agg #[.int .i64 0, .int .i64 0, .int .i64 0, .int .i64 0]), 4, 32) := by kernel_rfl
theorem elemTri : ElemT Tryz.prog 60 91 triangleO.n 32 := by
  obtain ⟨i, h1, h2, h3, h4⟩ := info_parts infoTri
  exact ⟨Tryz.underlying60, i, _, h1, h2, h3, h4, rfl⟩
theorem one_tri (a b c d : Int) : ∀ u ∈ (#[Value.int .i64 a, .int .i64 b, .int .i64 c, .int .i64 d] : Array Value).toList, u.oneCell' = true := by simp [Value.oneCell']

theorem cB_bd (n a b : Nat) (h8 : n ≤ 8) (ha : a ≤ n) (hb : b ≤ n) : cB n a b ≤ 64 := by
  have key : ∀ n, n ≤ 8 → ∀ a, a ≤ 8 → ∀ b, b ≤ 8 → cB n a b ≤ 64 := by decide
  exact key n h8 a (by omega) b (by omega)
theorem cA_bd (n a : Nat) (h8 : n ≤ 8) (ha : a ≤ n) : cA n a ≤ 512 := by
  have key : ∀ n, n ≤ 8 → ∀ a, a ≤ 8 → cA n a ≤ 512 := by decide
  exact key n h8 a (by omega)
set_option maxHeartbeats 4000000 in
set_option maxRecDepth 20000 in
theorem impl_BadTriangles (v : Value) (m : List (List Int)) (w : World) (h : Sl (slR intR) w v m) (hm : WM m) :
    Calls Tryz.prog 89 #[v] w fun e w2 => ∃ v2 F, e = .returned v2 ∧ OwnSl triangleO w2 v2 (badL m) F ∧ NewF w F ∧ Ext w w2 := by
  have HA := hid (impl_IsWeightMatrix v m w h)
  rw [wmB_yes hm] at HA
  obtain ⟨A, cap, rfl, hm1⟩ := h.form
  have h8 := hm.n8
  have HM := hid hm
  have HH := hid h
  have HBL := hid (badL_len hm.n8)
  clear hm h
  go_enter Tryz.func89, Tryz.ntmps89
  go_wp2_with fail
  refine (HA.out).mono ?_
  rintro e w2 ⟨rfl, rfl⟩
  go_wp2_with fail
  go_loopw [3, 13] (fun t i wr => ∃ a : Nat, a ≤ m.length ∧ i = .int .i64 a ∧ Bld triangleO wr w.heap.size 91 t (tA m a) [] ∧ Ext w wr) (fun _ i _ => m.length - (intOf i).toNat)
  case atStart => exact ⟨0, Nat.zero_le _, rfl, Bld.nil _ _ _, Ext.refl _⟩
  case round =>
    obtain ⟨a, ha, rfl, hB, hx⟩ := hrel
    by_cases hlt : a < m.length
    · have HB := hid hB
      have HX := hid hx
      clear hB hx
      go_wp2_with fail
      go_loopw [3, 5] (fun t i wr => ∃ b : Nat, a + 1 ≤ b ∧ b ≤ m.length ∧ i = .int .i64 b ∧ Bld triangleO wr w.heap.size 91 t (tA m a ++ tB m a b) [] ∧ Ext w wr) (fun _ i _ => m.length - (intOf i).toNat)
      case atStart => exact ⟨a + 1, Nat.le_refl _, hlt, by go_num, by rw [tB_le m a _ (Nat.le_refl _), List.append_nil]; exact HB.out, HX.out⟩
      case round =>
        clear HB HX
        obtain ⟨b, hab, hb, rfl, hB, hx⟩ := hrel
        by_cases hbl : b < m.length
        · have HB := hid hB
          have HX := hid hx
          clear hB hx
          go_wp2_with fail
          go_loopw [3, 6] (fun t i wr => ∃ c : Nat, b + 1 ≤ c ∧ c ≤ m.length ∧ i = .int .i64 c ∧ Bld triangleO wr w.heap.size 91 t (tA m a ++ tB m a b ++ tC m a b c) [] ∧ Ext w wr) (fun _ i _ => m.length - (intOf i).toNat)
          case atStart => exact ⟨b + 1, Nat.le_refl _, hbl, by go_num, by rw [tC_le m a b _ (Nat.le_refl _), List.append_nil]; exact HB.out, HX.out⟩
          case round =>
            clear HB HX
            obtain ⟨c, hbc, hc, rfl, hB, hx⟩ := hrel
            by_cases hcl : c < m.length
            · have HB := hid hB
              obtain ⟨bm, om, Ar, cr, eA, hrow, cm⟩ := HH.out.sl hlt
              have hrl : m[a].length = m.length := by have := HM.out.row a hlt; rwa [row_at hlt] at this
              have hbr : b < m[a].length := by omega
              have hcr : c < m[a].length := by omega
              obtain ⟨br, or, eAr, _, q1⟩ := hrow.int hbr
              obtain ⟨br2, or2, eAr2, _, q2⟩ := hrow.int hcr
              subst eAr
              injection eAr2 with e9
              injection e9 with e8 e7 q3
              clear q3
              subst e8; subst e7
              obtain ⟨bm2, om2, Ar2, cr2, eA2, hrow2, cm2⟩ := HH.out.sl hbl
              subst eA
              injection eA2 with e9
              injection e9 with e8 e7 q3
              clear q3
              subst e8; subst e7
              have hrl2 : m[b].length = m.length := by have := HM.out.row b hbl; rwa [row_at hbl] at this
              have hcr2 : c < m[b].length := by omega
              obtain ⟨br3, or3, eAr3, _, q3⟩ := hrow2.int hcr2
              subst eAr3
              rw [hrl] at cm
              rw [hrl2] at cm2
              have e1 := ent_at hlt hbr
              have e2 := ent_at hlt hcr
              have e3 := ent_at hbl hcr2
              have d1 := HM.out.bd a b hlt hbl
              have d2 := HM.out.bd a c hlt hcl
              have d3 := HM.out.bd b c hbl hcl
              rw [← e1] at q1
              rw [← e2] at q2
              rw [← e3] at q3
              have HST := hid (show tC m a b (c + 1) = if b < c ∧ badB m a b c = true then tC m a b c ++ [mkT m a b c] else tC m a b c from rfl)
              have HMK := hid (show mkT m a b c = ⟨a, b, c, min3 (ab (ent m a b)) (ab (ent m a c)) (ab (ent m b c))⟩ from rfl)
              have HBAD := hid (fun (wt : Int) (W : World) (y : Ext w W) => impl_isBad wt a b c _ m W (HH.out.mono y) HM.out hlt hbl hcl)
              obtain ⟨x, hxe⟩ : ∃ x, x = ent m a b := ⟨_, rfl⟩
              obtain ⟨y, hye⟩ : ∃ x, x = ent m a c := ⟨_, rfl⟩
              obtain ⟨z, hze⟩ : ∃ x, x = ent m b c := ⟨_, rfl⟩
              rw [← hxe] at q1 d1 HMK
              rw [← hye] at q2 d2 HMK
              rw [← hze] at q3 d3 HMK
              have HA1 := hid (fun (W : World) => impl_absolute x W (by omega))
              have HA2 := hid (fun (W : World) => impl_absolute y W (by omega))
              have HA3 := hid (fun (W : World) => impl_absolute z W (by omega))
              obtain ⟨X, hX⟩ : ∃ X, X = ab x := ⟨_, rfl⟩
              obtain ⟨Y, hY⟩ : ∃ X, X = ab y := ⟨_, rfl⟩
              obtain ⟨Z, hZ⟩ : ∃ X, X = ab z := ⟨_, rfl⟩
              rw [← hX] at HA1 HMK
              rw [← hY] at HA2 HMK
              rw [← hZ] at HA3 HMK
              have HXB := hid (show 0 ≤ X ∧ X ≤ 1000 ∧ 0 ≤ Y ∧ Y ≤ 1000 ∧ 0 ≤ Z ∧ Z ≤ 1000 from by rw [hX, hY, hZ]; unfold ab; omega)
              have HX := hid hx
              have HS := hid (show ∀ W, Ext w W → W.cell? ⟨bm, om + a, none⟩ = some (.slice (some ⟨br, or, none⟩) m.length cr) ∧ W.cell? ⟨br, or + b, none⟩ = some (.int .i64 x) ∧ W.cell? ⟨br, or + c, none⟩ = some (.int .i64 y) ∧ W.cell? ⟨bm, om + b, none⟩ = some (.slice (some ⟨br3, or3, none⟩) m.length cr2) ∧ W.cell? ⟨br3, or3 + c, none⟩ = some (.int .i64 z) from fun W y => ⟨y.cell cm, y.cell q1, y.cell q2, y.cell cm2, y.cell q3⟩)
              clear hX hY hZ hxe hye hze e1 e2 e3 d1 d2 d3 hrow hrow2 hrl hrl2 cm cm2 q1 q2 q3 hB hx
              go_wp2_with fail
              go_region_held3 (fun w' => w'.cell? ⟨bm, om + a, none⟩ = some (.slice (some ⟨br, or, none⟩) m.length cr) ∧ w'.cell? ⟨br, or + b, none⟩ = some (.int .i64 x) ∧ w'.cell? ⟨br, or + c, none⟩ = some (.int .i64 y) ∧ w'.cell? ⟨bm, om + b, none⟩ = some (.slice (some ⟨br3, or3, none⟩) m.length cr2) ∧ w'.cell? ⟨br3, or3 + c, none⟩ = some (.int .i64 z)) (exact HS.out _ (HX.out.trans (by repeat (first | with_reducible exact Ext.refl _ | with_reducible assumption | with_reducible refine Ext.drew ?_ | with_reducible refine Ext.alloc ?_ _ | (refine Ext.setCell ?_ (by simp) _) | with_reducible refine Ext.trans ?_ (by with_reducible assumption))))) (first | (go_at_call 91; first | (with_reducible refine (HA1.out _).mono ?_; rintro e w6 ⟨rfl, rfl⟩) | (with_reducible refine (HA2.out _).mono ?_; rintro e w6 ⟨rfl, rfl⟩) | (with_reducible refine (HA3.out _).mono ?_; rintro e w6 ⟨rfl, rfl⟩)))
              all_goals
                generalize hV : (if Z < (if Y < X then Y else X) then Z else (if Y < X then Y else X)) = V
                have HVV := hid (show mkT m a b c = ⟨a, b, c, V⟩ from by rw [HMK.out, ← hV]; rfl)
                have HVB := hid (show I64 V from by have := HXB.out; rw [← hV]; unfold I64; split <;> split <;> omega)
                first | (generalize hW : ((wr.alloc (.cells #[.int .i64 (a : Int), .int .i64 (b : Int), .int .i64 (c : Int), .int .i64 V] 91)).drew) = W) | (generalize hW : (wr.drew.alloc (.cells #[.int .i64 (a : Int), .int .i64 (b : Int), .int .i64 (c : Int), .int .i64 V] 91)) = W)
                have xW : Ext wr W := by rw [← hW]; first | exact ((Ext.refl wr).alloc _).drew | exact (Ext.refl wr).drew.alloc _
                have bW : Blk W wr.heap.size 91 [.int .i64 (a : Int), .int .i64 (b : Int), .int .i64 (c : Int), .int .i64 V] := by
                  rw [← hW]
                  first | exact (Blk.new wr 91 #[.int .i64 (a : Int), .int .i64 (b : Int), .int .i64 (c : Int), .int .i64 V]).ext (Ext.refl _).drew | exact Blk.new wr.drew 91 #[.int .i64 (a : Int), .int .i64 (b : Int), .int .i64 (c : Int), .int .i64 V]
                obtain ⟨c0, c1, c2, c3⟩ := bW.c4.1
                have HBW := hid bW
                have HXW := hid (HX.out.trans xW)
                have HB9 := hid (HB.out.ext xW)
                have HBD := hid (HBAD.out V W (HX.out.trans xW))
                have HLN := hid (show (tA m a ++ tB m a b ++ tC m a b c).length + 1 ≤ 1099511627776 from by
                  have k1 := tA_len m a
                  have k2 := tB_len m a b
                  have k3 := tC_len m a b c
                  have k4 := HM.out.n8
                  have k5 := cA_bd m.length a k4 (Nat.le_of_lt hlt)
                  have k6 := cB_bd m.length a b k4 (Nat.le_of_lt hlt) (Nat.le_of_lt hbl)
                  simp only [List.length_append]; omega)
                obtain ⟨bd, hbd⟩ : ∃ bd, bd = badB m a b c := ⟨_, rfl⟩
                rw [← hbd] at HBD HST
                clear hV hW bW xW hbd
                cases bd with
                | false =>
                  have HE := hid (show tC m a b (c + 1) = tC m a b c from by rw [HST.out, if_neg fun h => by cases h.2])
                  go_wp2_with fail
                  refine (HBD.out).mono ?_
                  rintro e w7 ⟨rfl, x7⟩
                  go_wp2
                  go_roundw
                  case rel => exact ⟨c + 1, by omega, by omega, by go_num, by rw [HE.out]; exact HB9.out.ext x7, HXW.out.trans x7⟩
                  case measure => simp [intOf]; omega
                | true =>
                  have HE := hid (show tA m a ++ tB m a b ++ tC m a b (c + 1) = tA m a ++ tB m a b ++ tC m a b c ++ [⟨a, b, c, V⟩] from by rw [HST.out, if_pos ⟨by omega, rfl⟩, HVV.out, List.append_assoc (tA m a ++ tB m a b)])
                  go_wp2_with fail
                  refine (HBD.out).mono ?_
                  rintro e w7 ⟨rfl, x7⟩
                  obtain ⟨d0, d1, d2, d3⟩ := (HBW.out.ext x7).c4.1
                  have HB7 := hid (HB9.out.ext x7)
                  have hx7 := HXW.out.trans x7
                  have HABC := hid (show I64 (a : Int) ∧ I64 (b : Int) ∧ I64 (c : Int) from by have := HM.out.n8; unfold I64; omega)
                  clear c0 c1 c2 c3
                  go_wp2_with (at_builtin; refine wpList_app1 (R := triangleO) elemTri (by decide) rfl _ _ rfl HB7.out rfl _ 1 rfl (by simp) (one_tri _ _ _ _) (y := ⟨a, b, c, V⟩) ⟨⟨rfl, ⟨HABC.out.1, HABC.out.2.1, HABC.out.2.2, HVB.out⟩⟩, rfl⟩ fresh_nil HLN.out (by decide) hx7.size ?_; intro v9 w9 hB10 hE10)
                  go_roundw
                  case rel => exact ⟨c + 1, by omega, by omega, by go_num, by rw [HE.out]; exact hB10, hE10 w (Nat.le_refl _) hx7⟩
                  case measure => simp [intOf]; omega
            · have hcm : c = m.length := by omega
              subst hcm
              have HB9 := hid (show Bld triangleO wr w.heap.size 91 _ (tA m a ++ tB m a (b + 1)) [] from by rw [show tB m a (b + 1) = tB m a b ++ tC m a b m.length from by rw [tB, if_pos (by omega)], ← List.append_assoc]; exact hB)
              clear hB
              go_wp2
              go_roundw
              case rel => exact ⟨b + 1, by omega, by omega, by go_num, HB9.out, hx⟩
              case measure => simp [intOf]; omega
        · have hbm : b = m.length := by omega
          subst hbm
          have HB9 := hid (show Bld triangleO wr w.heap.size 91 _ (tA m (a + 1)) [] from hB)
          clear hB
          go_wp2
          go_roundw
          case rel => exact ⟨a + 1, by omega, by go_num, HB9.out, hx⟩
          case measure => simp [intOf]; omega
    · have ham : a = m.length := by omega
      subst ham
      obtain ⟨F', q1, q2, q3⟩ := hB.done
      clear hB
      go_wp2
      go_ret
      exact ⟨_, F', rfl, q1, ⟨q2, q3⟩, hx⟩
end Go.Proofs.YtidchfncfcckiaaGreat

namespace Go.Proofs.YtidchfncfcckiaaGreat
open Go.RowKit

set_option maxHeartbeats 1000000 in
set_option maxRecDepth 20000 in
theorem impl_isTriangle (wt : Int) (a b c n : Nat) (w : World) (hab : a < b) (hbc : b < c) (hc : c < n) (h8 : n ≤ 8) :
    Calls Tryz.prog 141 #[.agg #[.int .i64 (a : Int), .int .i64 (b : Int), .int .i64 (c : Int), .int .i64 wt], .int .i64 n] w fun e w2 => e = .returned (.bool true) ∧ Ext w w2 := by
  have i1 : inB (a : Int) 0 ((n : Int) - 1) = true := by unfold inB; rw [decide_eq_true_eq]; omega
  have i2 : inB (b : Int) 0 ((n : Int) - 1) = true := by unfold inB; rw [decide_eq_true_eq]; omega
  have i3 : inB (c : Int) 0 ((n : Int) - 1) = true := by unfold inB; rw [decide_eq_true_eq]; omega
  have HA := hid (fun (W : World) => impl_isItem (a : Int) n W (by omega) (by omega))
  have HB := hid (fun (W : World) => impl_isItem (b : Int) n W (by omega) (by omega))
  have HC := hid (fun (W : World) => impl_isItem (c : Int) n W (by omega) (by omega))
  rw [i1] at HA
  rw [i2] at HB
  rw [i3] at HC
  have d1 : decide ((a : Int) < (b : Int)) = true := by simp; omega
  have d2 : decide ((b : Int) < (c : Int)) = true := by simp; omega
  have d3 : (a : Int) < (b : Int) := by omega
  have d4 : (b : Int) < (c : Int) := by omega
  clear i1 i2 i3
  go_enter Tryz.func141, Tryz.ntmps141
  go_wp2_with (first | (go_at_call 110; first | (with_reducible refine (HA.out _).mono ?_; rintro e w6 ⟨rfl, rfl⟩) | (with_reducible refine (HB.out _).mono ?_; rintro e w6 ⟨rfl, rfl⟩) | (with_reducible refine (HC.out _).mono ?_; rintro e w6 ⟨rfl, rfl⟩)))
  go_ret
  exact ⟨rfl, (Ext.refl _).alloc _⟩

theorem aU_new {n : Nat} {U : List (List Int)} (hs : Sq n U) (W : Int) {a b c : Nat} (hab : a < b) (hbc : b < c) (hc : c < n) :
    ent (aU U W a b c 1) a b = ent U a b + W ∧ ent (aU U W a b c 2) a c = ent U a c + W ∧ ent (aU U W a b c 3) b c = ent U b c + W := by
  have ha : a < n := by omega
  have hb : b < n := by omega
  have h1 := aU_sq hs W ha hb hc 1
  have h2 := aU_sq hs W ha hb hc 2
  obtain ⟨_, e2, e3⟩ := aU_at hs W hab hbc hc
  refine ⟨?_, ?_, ?_⟩
  · show ent (setE U a b _) a b = _
    rw [ent_set hs ha hb, if_pos ⟨rfl, rfl⟩]
  · show ent (setE (aU U W a b c 1) a c (ent (aU U W a b c 1) a c + W)) a c = _
    rw [ent_set h1 ha hc, if_pos ⟨rfl, rfl⟩, e2]
  · show ent (setE (aU U W a b c 2) b c (ent (aU U W a b c 2) b c + W)) b c = _
    rw [ent_set h2 hb hc, if_pos ⟨rfl, rfl⟩, e3]
theorem used_next {m : List (List Int)} {l : List Triangle} (hp : PackB m l) {k : Nat} (hk : k < l.length) {a b c : Nat} (ea : l[k].a = a) (eb : l[k].b = b) (ec : l[k].c = c) (hab : a < b) (hbc : b < c) (hc : c < m.length) :
    usedT (l.take k) a b + l[k].weight ≤ ab (ent m a b) ∧ usedT (l.take k) a c + l[k].weight ≤ ab (ent m a c) ∧ usedT (l.take k) b c + l[k].weight ≤ ab (ent m b c) := by
  have key : ∀ x y : Nat, x < y → y < m.length → onT l[k] x y = true → usedT (l.take k) x y + l[k].weight ≤ ab (ent m x y) := fun x y hxy hy ho => by
    have h1 := usedT_take (fun t ht => (hp.tri t ht).2.1) x y (k + 1)
    rw [List.take_succ_eq_append_getElem hk, usedT_snoc, if_pos ho] at h1
    have := hp.fit x y hxy hy
    omega
  have o : ∀ x y : Nat, (x = a ∧ y = b) ∨ (x = a ∧ y = c) ∨ (x = b ∧ y = c) → onT l[k] x y = true := fun x y h => by
    unfold onT
    rw [ea, eb, ec]
    simp only [Bool.or_eq_true, Bool.and_eq_true, beq_iff_eq]
    omega
  exact ⟨key a b hab (by omega) (o a b (.inl ⟨rfl, rfl⟩)), key a c (by omega) hc (o a c (.inr (.inl ⟨rfl, rfl⟩))), key b c hbc hc (o b c (.inr (.inr ⟨rfl, rfl⟩)))⟩
theorem used_nn {m : List (List Int)} {l : List Triangle} (hp : PackB m l) (k : Nat) (x y : Int) : 0 ≤ usedT (l.take k) x y := by
  have h1 := usedT_take (l := l.take k) (fun t ht => (hp.tri t (List.mem_of_mem_take ht)).2.1) x y 0
  exact h1

set_option maxHeartbeats 8000000 in
set_option maxRecDepth 20000 in
theorem impl_IsPacking (v u : Value) (m : List (List Int)) (l : List Triangle) (w : World) (h : Sl (slR intR) w v m) (k0 : Sl triangleR w u l) (hm : WM m) (hp : PackB m l) (hl : l.length ≤ 56) :
    Calls Tryz.prog 127 #[v, u] w fun e w2 => e = .returned (.bool true) ∧ Ext w w2 := by
  have HA := hid (impl_IsWeightMatrix v m w h)
  rw [wmB_yes hm] at HA
  obtain ⟨A, cap, rfl, hm1⟩ := h.form
  obtain ⟨B, cap2, rfl, hm2⟩ := k0.form
  have h8 := hm.n8
  have h1 := hm.n1
  have HM := hid hm
  have HH := hid h
  have HK0 := hid k0
  have HPK := hid hp
  have HSQ0 := hid (impl_square m.length w (by omega))
  have HN := hid (And.intro h1 h8)
  have hl100 : (l.length : Int) ≤ 100 := by omega
  clear hm h k0 h8 h1 hp
  go_enter Tryz.func127, Tryz.ntmps127
  go_wp2_with fail
  refine (HA.out).mono ?_
  rintro e w0 ⟨rfl, rfl⟩
  go_wp2_with fail
  refine (HSQ0.out).mono ?_
  rintro e wB ⟨v1, F1, rfl, o1, n1, x1⟩
  obtain ⟨G0, O0, c1, b0, o0, cpb0, e1, k1, k2, k3, k4, k5, k6⟩ := o1.ints_store n1.1 (i := 0) (s := 0) (by rw [List.length_replicate]; exact HN.out.1) (by rw [List.getElem_replicate, List.length_replicate]; exact HN.out.1)
  clear k1 k2 k3 k4 k5 k6
  rw [List.length_replicate] at e1
  subst e1
  have HO1 := hid (show OwnSl (slO intO) wB (.slice (some ⟨G0, O0, none⟩) m.length c1) (sqM m.length) F1 from o1)
  have HF1 := hid n1
  have HX1 := hid x1
  have HDJ := hid (show ∀ b ∈ F1, b < wB.heap.size from fun b hb => o1.lt b hb)
  clear o1 n1 x1
  go_wp2_with fail
  go_loopw [23] (fun i wr => ∃ (k : Nat) (U : List (List Int)), k ≤ l.length ∧ i = .int .i64 k ∧ Sq m.length U ∧ (∀ x y, x < m.length → y < m.length → ent U x y = usedT (l.take k) x y) ∧
    OwnSl (slO intO) wr (.slice (some ⟨G0, O0, none⟩) m.length c1) U F1 ∧ KeepB wB wr F1 ∧ Ext w wr) (fun i _ => l.length - (intOf i).toNat)
  case atStart => exact ⟨0, sqM m.length, Nat.zero_le _, rfl, sqM_sq _, fun x y hx hy => by rw [sqM_ent hx hy]; rfl, HO1.out, KeepB.refl _ _, HX1.out⟩
  case round =>
    clear HO1
    obtain ⟨k, U, hk, rfl, hSQ, hUE, hO, hK, hx⟩ := hrel
    by_cases hlt : k < l.length
    · obtain ⟨bT, oT, eT, _, t0, t1, t2, t3⟩ := (HK0.out.mono hx).triangle hlt
      subst eT
      obtain ⟨⟨a, b, c, hab, hbc, hc, hbad, ea, eb, ec⟩, hw1, hw2⟩ := HPK.out.tri l[k] (List.getElem_mem hlt)
      obtain ⟨e0, e1, e2⟩ := used_next HPK.out hlt ea eb ec hab hbc hc
      have ha : a < m.length := by omega
      have hb : b < m.length := by omega
      have hac : a < c := by omega
      obtain ⟨W, hW⟩ : ∃ W, W = l[k].weight := ⟨_, rfl⟩
      rw [ea] at t0
      rw [eb] at t1
      rw [ec] at t2
      rw [← hW] at t3 e0 e1 e2 hw1 hw2
      have HLE0 := hid e0
      have HLE1 := hid e1
      have HLE2 := hid e2
      have HWB2 := hid (And.intro hw1 hw2)
      have HFIT := hid (fun (x y : Nat) (_ : x < y) (_ : y < m.length) => used_nn HPK.out k (x : Int) (y : Int))
      have HNX := hid (show ∀ x y, x < m.length → y < m.length → ent (aU U W a b c 3) x y = usedT (l.take (k + 1)) x y from by
        rw [List.take_succ_eq_append_getElem hlt]
        exact aU_fin hSQ hab hbc hc ea eb ec hW.symm hUE)
      have HUE := hid hUE
      have HSQ := hid hSQ
      have HKO := hid hK
      have HOO := hid hO
      have HXO := hid hx
      have hinW : inB W 1 1000 = true := by unfold inB; rw [decide_eq_true_eq]; omega
      have HIW := hid (fun (Y : World) => impl_within W 1 1000 Y)
      rw [hinW] at HIW
      have HT := hid (fun (Y : World) => impl_isTriangle W a b c m.length Y hab hbc hc HN.out.2)
      have HBD := hid (fun (Y : World) (y : Ext w Y) => impl_isBad W a b c _ m Y (HH.out.mono y) HM.out ha hb hc)
      rw [hbad] at HBD
      have HP := hid (fun (Y : World) => impl_pairs ⟨a, b, c, W⟩ Y)
      have hnab : (a : Int) < (m.length : Int) := by omega
      have hnbb : (b : Int) < (m.length : Int) := by omega
      have hncb : (c : Int) < (m.length : Int) := by omega
      obtain ⟨g6, hg6⟩ : ∃ g, g = wr.heap.size := ⟨_, rfl⟩
      have HG6E := hid hg6
      have hxa : Ext wr (wr.alloc (.cells #[.int .i64 (a : Int), .int .i64 (b : Int), .int .i64 (c : Int), .int .i64 W] 91)) := (Ext.refl _).alloc _
      have HXA := hid hxa
      have HBX := hid (show Blk (wr.alloc (.cells #[.int .i64 (a : Int), .int .i64 (b : Int), .int .i64 (c : Int), .int .i64 W] 91)) g6 91 [.int .i64 (a : Int), .int .i64 (b : Int), .int .i64 (c : Int), .int .i64 W] from by rw [hg6]; exact Blk.new wr 91 #[.int .i64 (a : Int), .int .i64 (b : Int), .int .i64 (c : Int), .int .i64 W])
      clear hSQ hUE hO hK hx ea eb ec hW e0 e1 e2 hw1 hw2 hinW hbad hxa hg6
      go_wp2_with fail
      refine (HT.out _).mono ?_
      rintro e y1 ⟨rfl, z1⟩
      have HZ1 := hid (HXA.out.trans z1)
      obtain ⟨q0, q1, q2, q3⟩ := (HBX.out.ext z1).c4.1
      rw [HG6E.out] at q0 q1 q2 q3
      have HB1 := hid (HBX.out.ext z1)
      clear z1 t0 t1 t2 t3
      go_wp2_with fail
      refine (HBD.out _ (HXO.out.trans HZ1.out)).mono ?_
      rintro e y2 ⟨rfl, z2⟩
      have HZ2 := hid (HZ1.out.trans z2)
      have HB2 := hid (HB1.out.ext z2)
      obtain ⟨p0, p1, p2, p3⟩ := HB2.out.c4.1
      rw [HG6E.out] at p0 p1 p2 p3
      clear z2 q0 q1 q2 q3
      go_wp2_with fail
      refine (HIW.out _).mono ?_
      rintro e y3 ⟨rfl, rfl⟩
      go_wp2_with fail
      refine (HP.out _).mono ?_
      rintro e wp ⟨rfl, xp⟩
      have HXP := hid (HXO.out.trans (HZ2.out.trans xp))
      have HB6 := hid (HB2.out.ext xp)
      have HT3 := hid (show wp.cell? ⟨g6, 3, none⟩ = some (.int .i64 W) from HB6.out.cells.1 3)
      have HG6N := hid (show g6 ∉ F1 from fun hm => by have := HDJ.out g6 hm; have := HKO.out.1; have := HG6E.out; omega)
      have HOP := hid (HOO.out.ext (HZ2.out.trans xp))
      have HKP := hid (HKO.out.ext (HZ2.out.trans xp))
      have HSZ := hid (show wr.heap.size ≤ wp.heap.size from (HZ2.out.trans xp).size)
      clear xp p0 p1 p2 p3
      go_wp2_with fail
      rw [← HG6E.out]
      go_loopw [46] (fun i wr => ∃ j : Nat, j ≤ 3 ∧ i = .int .i64 j ∧ OwnSl (slO intO) wr (.slice (some ⟨G0, O0, none⟩) m.length c1) (aU U W a b c j) F1 ∧ KeepB wp wr F1 ∧ Ext w wr) (fun i _ => 3 - (intOf i).toNat)
      case atStart => exact ⟨0, Nat.zero_le _, rfl, HOP.out, KeepB.refl _ _, HXP.out⟩
      case round =>
        clear HOP
        obtain ⟨j, hj, rfl, hO, hK, hx⟩ := hrel
        have hjj : j = 0 ∨ j = 1 ∨ j = 2 ∨ j = 3 := by omega
        rcases hjj with rfl | rfl | rfl | rfl
        · have hix := fun (W : World) => ix3_0 (a : Int) b a c b c W
          obtain ⟨wd, hwd⟩ : ∃ W, W = (wr.alloc (.cells #[.int .i64 (a : Int), .int .i64 (b : Int)] 92)).drew := ⟨_, rfl⟩
          have xd : Ext wr wd := by rw [hwd]; exact ((Ext.refl wr).alloc _).drew
          have bb : Blk wd wr.heap.size 92 [.int .i64 (a : Int), .int .i64 (b : Int)] := by rw [hwd]; exact (Blk.new wr 92 #[.int .i64 (a : Int), .int .i64 (b : Int)]).ext (Ext.refl _).drew
          have z0 : wd.cell? ⟨wr.heap.size, 0, none⟩ = some (.int .i64 (a : Int)) := bb.cells.1 0
          have z1 : wd.cell? ⟨wr.heap.size, 1, none⟩ = some (.int .i64 (b : Int)) := bb.cells.1 1
          have HW := hid hwd
          clear bb hwd
          obtain ⟨bm, om, br, or, cr, eA, hmat⟩ := mat_cells HH.out HM.out ha hb
          subst eA
          obtain ⟨ob, oo, oc, v0, v1, v2, v3, v4⟩ := (hO.ext xd).tab HF1.out.1 (aU_sq HSQ.out W ha hb hc 0) ha hb
          have hKd := hK.ext xd
          have t3 : wd.cell? ⟨g6, 3, none⟩ = some (.int .i64 W) := hKd.cell HG6N.out HT3.out
          have hev : ent (aU U W a b c 0) a b = usedT (l.take k) a b := (aU_at HSQ.out W hab hbc hc).1.trans (HUE.out a b ha hb)
          have hub := HFIT.out a b hab hb
          have hx1 := (ab_bd HM.out ha hb).2
          have habd := HM.out.bd a b ha hb
          have HAB := hid (fun (W : World) => impl_absolute (ent m a b) W (by omega))
          have hle := HLE0.out
          have hO2 := v4 (ent (aU U W a b c 0) a b + W) (by rw [hev]; unfold I64; have := HWB2.out; omega)
          have HO2 := hid (show OwnSl (slO intO) _ _ (aU U W a b c 1) F1 from hO2)
          rw [hev] at v1 HO2
          have hobw : w.heap.size ≤ ob := HF1.out.2 ob v3
          have hobl : ob < wB.heap.size := HDJ.out ob v3
          have hx3 := (hx.trans xd).setCell (p := ⟨ob, oo + b, none⟩) hobw (.int .i64 (usedT (l.take k) a b + W))
          have hk3 := hKd.set (i := oo + b) v3 (.int .i64 (usedT (l.take k) a b + W))
          obtain ⟨X, hX⟩ : ∃ X, X = ab (ent m a b) := ⟨_, rfl⟩
          rw [← hX] at HAB hx1 hle
          obtain ⟨Y, hY⟩ : ∃ Y, Y = usedT (l.take k) a b := ⟨_, rfl⟩
          rw [← hY] at v1 hub HO2 hx3 hk3 hle
          obtain ⟨w3, hw3⟩ : ∃ w3, w3 = wd.setCell ⟨ob, oo + b, none⟩ (.int .i64 (Y + W)) := ⟨_, rfl⟩
          rw [← hw3] at HO2 hx3 hk3
          have hne : wr.heap.size ≠ ob := fun e => by have := HKO.out.1; have := HSZ.out; have := hK.1; omega
          have z0' : ∀ z : ExtOf w3, z.1.cell? ⟨wr.heap.size, 0, none⟩ = some (.int .i64 (a : Int)) := fun z => z.2.cell (by rw [hw3, World.cell?_setCell_other wd _ _ _ (fun e => by injection e with e1 _ _; exact hne e1.symm)]; exact z0)
          have z1' : ∀ z : ExtOf w3, z.1.cell? ⟨wr.heap.size, 1, none⟩ = some (.int .i64 (b : Int)) := fun z => z.2.cell (by rw [hw3, World.cell?_setCell_other wd _ _ _ (fun e => by injection e with e1 _ _; exact hne e1.symm)]; exact z1)
          obtain ⟨ob4, oo4, oc4, u0, u1, _, _, _⟩ := HO2.out.tab HF1.out.1 (aU_sq HSQ.out W ha hb hc 1) ha hb
          rw [show ent (aU U W a b c 1) a b = Y + W from by rw [hY]; exact (aU_new HSQ.out W hab hbc hc).1.trans (by rw [HUE.out a b ha hb])] at u1
          have u0' : ∀ z : ExtOf w3, z.1.cell? ⟨G0, O0 + a, none⟩ = _ := fun z => z.2.cell u0
          have u1' : ∀ z : ExtOf w3, z.1.cell? ⟨ob4, oo4 + b, none⟩ = _ := fun z => z.2.cell u1
          have y0' : ∀ z : ExtOf w3, z.1.cell? ⟨bm, om + a, none⟩ = some (.slice (some ⟨br, or, none⟩) m.length cr) := fun z => (hmat z.1 (hx3.trans z.2)).1
          have y1' : ∀ z : ExtOf w3, z.1.cell? ⟨br, or + b, none⟩ = some (.int .i64 (ent m a b)) := fun z => (hmat z.1 (hx3.trans z.2)).2
          have HXD := hid hx3
          have HKD := hid hk3
          have HW3 := hid hw3
          have hWb2 := HWB2.out
          have hd : decide (X < Y + W) = false := by simp; omega
          have HZ := hid (And.intro z0' (And.intro z1' (And.intro u0' (And.intro u1' (And.intro y0' y1')))))
          clear xd hX hY hK hKd hO hO2 hev hx v3 v4 hobw hobl hx3 hk3 hw3 hne u0 u1 z0' z1' u0' u1' y0' y1' hmat habd
          go_wp2_with fail
          refine wp_region_tail 13 HW.out (by kernel_rfl) (by kernel_rfl) ?_
          simp only [List.take_succ_cons, List.take_zero, List.drop_succ_cons, List.drop_zero]
          repeat (first | go_big_quiet_step ((fail)) | (go_big_quiet_want; go_big_quiet_op; apply Exists.intro; refine ⟨?_, ?_⟩; (fail); go_big_quiet_on))
          refine wpQuiet_nil ?_
          go_wp2_with fail
          rw [← HW3.out]
          obtain ⟨z0', z1', u0', u1', y0', y1'⟩ := HZ.out
          refine wp_region_ext (by kernel_rfl) (by kernel_rfl) ?_
          repeat (go_big_quiet_step (((first | (go_at_call 91; exact quiet_same (HAB.out _))))))
          refine wpQuiet_nil ?_
          rintro w5 ⟨⟨_, x5⟩, rfl⟩
          clear z0' z1' u0' u1' y0' y1'
          go_wp2
          go_roundw
          case rel => exact ⟨1, by omega, rfl, HO2.out.ext x5, HKD.out.ext x5, HXD.out.trans x5⟩
          case measure => simp [intOf]
        · have hix := fun (W : World) => ix3_1 (a : Int) b a c b c W
          obtain ⟨wd, hwd⟩ : ∃ W, W = (wr.alloc (.cells #[.int .i64 (a : Int), .int .i64 (c : Int)] 92)).drew := ⟨_, rfl⟩
          have xd : Ext wr wd := by rw [hwd]; exact ((Ext.refl wr).alloc _).drew
          have bb : Blk wd wr.heap.size 92 [.int .i64 (a : Int), .int .i64 (c : Int)] := by rw [hwd]; exact (Blk.new wr 92 #[.int .i64 (a : Int), .int .i64 (c : Int)]).ext (Ext.refl _).drew
          have z0 : wd.cell? ⟨wr.heap.size, 0, none⟩ = some (.int .i64 (a : Int)) := bb.cells.1 0
          have z1 : wd.cell? ⟨wr.heap.size, 1, none⟩ = some (.int .i64 (c : Int)) := bb.cells.1 1
          have HW := hid hwd
          clear bb hwd
          obtain ⟨bm, om, br, or, cr, eA, hmat⟩ := mat_cells HH.out HM.out ha hc
          subst eA
          obtain ⟨ob, oo, oc, v0, v1, v2, v3, v4⟩ := (hO.ext xd).tab HF1.out.1 (aU_sq HSQ.out W ha hb hc 1) ha hc
          have hKd := hK.ext xd
          have t3 : wd.cell? ⟨g6, 3, none⟩ = some (.int .i64 W) := hKd.cell HG6N.out HT3.out
          have hev : ent (aU U W a b c 1) a c = usedT (l.take k) a c := (aU_at HSQ.out W hab hbc hc).2.1.trans (HUE.out a c ha hc)
          have hub := HFIT.out a c hac hc
          have hx1 := (ab_bd HM.out ha hc).2
          have habd := HM.out.bd a c ha hc
          have HAB := hid (fun (W : World) => impl_absolute (ent m a c) W (by omega))
          have hle := HLE1.out
          have hO2 := v4 (ent (aU U W a b c 1) a c + W) (by rw [hev]; unfold I64; have := HWB2.out; omega)
          have HO2 := hid (show OwnSl (slO intO) _ _ (aU U W a b c 2) F1 from hO2)
          rw [hev] at v1 HO2
          have hobw : w.heap.size ≤ ob := HF1.out.2 ob v3
          have hobl : ob < wB.heap.size := HDJ.out ob v3
          have hx3 := (hx.trans xd).setCell (p := ⟨ob, oo + c, none⟩) hobw (.int .i64 (usedT (l.take k) a c + W))
          have hk3 := hKd.set (i := oo + c) v3 (.int .i64 (usedT (l.take k) a c + W))
          obtain ⟨X, hX⟩ : ∃ X, X = ab (ent m a c) := ⟨_, rfl⟩
          rw [← hX] at HAB hx1 hle
          obtain ⟨Y, hY⟩ : ∃ Y, Y = usedT (l.take k) a c := ⟨_, rfl⟩
          rw [← hY] at v1 hub HO2 hx3 hk3 hle
          obtain ⟨w3, hw3⟩ : ∃ w3, w3 = wd.setCell ⟨ob, oo + c, none⟩ (.int .i64 (Y + W)) := ⟨_, rfl⟩
          rw [← hw3] at HO2 hx3 hk3
          have hne : wr.heap.size ≠ ob := fun e => by have := HKO.out.1; have := HSZ.out; have := hK.1; omega
          have z0' : ∀ z : ExtOf w3, z.1.cell? ⟨wr.heap.size, 0, none⟩ = some (.int .i64 (a : Int)) := fun z => z.2.cell (by rw [hw3, World.cell?_setCell_other wd _ _ _ (fun e => by injection e with e1 _ _; exact hne e1.symm)]; exact z0)
          have z1' : ∀ z : ExtOf w3, z.1.cell? ⟨wr.heap.size, 1, none⟩ = some (.int .i64 (c : Int)) := fun z => z.2.cell (by rw [hw3, World.cell?_setCell_other wd _ _ _ (fun e => by injection e with e1 _ _; exact hne e1.symm)]; exact z1)
          obtain ⟨ob4, oo4, oc4, u0, u1, _, _, _⟩ := HO2.out.tab HF1.out.1 (aU_sq HSQ.out W ha hb hc 2) ha hc
          rw [show ent (aU U W a b c 2) a c = Y + W from by rw [hY]; exact (aU_new HSQ.out W hab hbc hc).2.1.trans (by rw [HUE.out a c ha hc])] at u1
          have u0' : ∀ z : ExtOf w3, z.1.cell? ⟨G0, O0 + a, none⟩ = _ := fun z => z.2.cell u0
          have u1' : ∀ z : ExtOf w3, z.1.cell? ⟨ob4, oo4 + c, none⟩ = _ := fun z => z.2.cell u1
          have y0' : ∀ z : ExtOf w3, z.1.cell? ⟨bm, om + a, none⟩ = some (.slice (some ⟨br, or, none⟩) m.length cr) := fun z => (hmat z.1 (hx3.trans z.2)).1
          have y1' : ∀ z : ExtOf w3, z.1.cell? ⟨br, or + c, none⟩ = some (.int .i64 (ent m a c)) := fun z => (hmat z.1 (hx3.trans z.2)).2
          have HXD := hid hx3
          have HKD := hid hk3
          have HW3 := hid hw3
          have hWb2 := HWB2.out
          have hd : decide (X < Y + W) = false := by simp; omega
          have HZ := hid (And.intro z0' (And.intro z1' (And.intro u0' (And.intro u1' (And.intro y0' y1')))))
          clear xd hX hY hK hKd hO hO2 hev hx v3 v4 hobw hobl hx3 hk3 hw3 hne u0 u1 z0' z1' u0' u1' y0' y1' hmat habd
          go_wp2_with fail
          refine wp_region_tail 13 HW.out (by kernel_rfl) (by kernel_rfl) ?_
          simp only [List.take_succ_cons, List.take_zero, List.drop_succ_cons, List.drop_zero]
          repeat (first | go_big_quiet_step ((fail)) | (go_big_quiet_want; go_big_quiet_op; apply Exists.intro; refine ⟨?_, ?_⟩; (fail); go_big_quiet_on))
          refine wpQuiet_nil ?_
          go_wp2_with fail
          rw [← HW3.out]
          obtain ⟨z0', z1', u0', u1', y0', y1'⟩ := HZ.out
          refine wp_region_ext (by kernel_rfl) (by kernel_rfl) ?_
          repeat (go_big_quiet_step (((first | (go_at_call 91; exact quiet_same (HAB.out _))))))
          refine wpQuiet_nil ?_
          rintro w5 ⟨⟨_, x5⟩, rfl⟩
          clear z0' z1' u0' u1' y0' y1'
          go_wp2
          go_roundw
          case rel => exact ⟨2, by omega, rfl, HO2.out.ext x5, HKD.out.ext x5, HXD.out.trans x5⟩
          case measure => simp [intOf]
        · have hix := fun (W : World) => ix3_2 (a : Int) b a c b c W
          obtain ⟨wd, hwd⟩ : ∃ W, W = (wr.alloc (.cells #[.int .i64 (b : Int), .int .i64 (c : Int)] 92)).drew := ⟨_, rfl⟩
          have xd : Ext wr wd := by rw [hwd]; exact ((Ext.refl wr).alloc _).drew
          have bb : Blk wd wr.heap.size 92 [.int .i64 (b : Int), .int .i64 (c : Int)] := by rw [hwd]; exact (Blk.new wr 92 #[.int .i64 (b : Int), .int .i64 (c : Int)]).ext (Ext.refl _).drew
          have z0 : wd.cell? ⟨wr.heap.size, 0, none⟩ = some (.int .i64 (b : Int)) := bb.cells.1 0
          have z1 : wd.cell? ⟨wr.heap.size, 1, none⟩ = some (.int .i64 (c : Int)) := bb.cells.1 1
          have HW := hid hwd
          clear bb hwd
          obtain ⟨bm, om, br, or, cr, eA, hmat⟩ := mat_cells HH.out HM.out hb hc
          subst eA
          obtain ⟨ob, oo, oc, v0, v1, v2, v3, v4⟩ := (hO.ext xd).tab HF1.out.1 (aU_sq HSQ.out W ha hb hc 2) hb hc
          have hKd := hK.ext xd
          have t3 : wd.cell? ⟨g6, 3, none⟩ = some (.int .i64 W) := hKd.cell HG6N.out HT3.out
          have hev : ent (aU U W a b c 2) b c = usedT (l.take k) b c := (aU_at HSQ.out W hab hbc hc).2.2.trans (HUE.out b c hb hc)
          have hub := HFIT.out b c hbc hc
          have hx1 := (ab_bd HM.out hb hc).2
          have habd := HM.out.bd b c hb hc
          have HAB := hid (fun (W : World) => impl_absolute (ent m b c) W (by omega))
          have hle := HLE2.out
          have hO2 := v4 (ent (aU U W a b c 2) b c + W) (by rw [hev]; unfold I64; have := HWB2.out; omega)
          have HO2 := hid (show OwnSl (slO intO) _ _ (aU U W a b c 3) F1 from hO2)
          rw [hev] at v1 HO2
          have hobw : w.heap.size ≤ ob := HF1.out.2 ob v3
          have hobl : ob < wB.heap.size := HDJ.out ob v3
          have hx3 := (hx.trans xd).setCell (p := ⟨ob, oo + c, none⟩) hobw (.int .i64 (usedT (l.take k) b c + W))
          have hk3 := hKd.set (i := oo + c) v3 (.int .i64 (usedT (l.take k) b c + W))
          obtain ⟨X, hX⟩ : ∃ X, X = ab (ent m b c) := ⟨_, rfl⟩
          rw [← hX] at HAB hx1 hle
          obtain ⟨Y, hY⟩ : ∃ Y, Y = usedT (l.take k) b c := ⟨_, rfl⟩
          rw [← hY] at v1 hub HO2 hx3 hk3 hle
          obtain ⟨w3, hw3⟩ : ∃ w3, w3 = wd.setCell ⟨ob, oo + c, none⟩ (.int .i64 (Y + W)) := ⟨_, rfl⟩
          rw [← hw3] at HO2 hx3 hk3
          have hne : wr.heap.size ≠ ob := fun e => by have := HKO.out.1; have := HSZ.out; have := hK.1; omega
          have z0' : ∀ z : ExtOf w3, z.1.cell? ⟨wr.heap.size, 0, none⟩ = some (.int .i64 (b : Int)) := fun z => z.2.cell (by rw [hw3, World.cell?_setCell_other wd _ _ _ (fun e => by injection e with e1 _ _; exact hne e1.symm)]; exact z0)
          have z1' : ∀ z : ExtOf w3, z.1.cell? ⟨wr.heap.size, 1, none⟩ = some (.int .i64 (c : Int)) := fun z => z.2.cell (by rw [hw3, World.cell?_setCell_other wd _ _ _ (fun e => by injection e with e1 _ _; exact hne e1.symm)]; exact z1)
          obtain ⟨ob4, oo4, oc4, u0, u1, _, _, _⟩ := HO2.out.tab HF1.out.1 (aU_sq HSQ.out W ha hb hc 3) hb hc
          rw [show ent (aU U W a b c 3) b c = Y + W from by rw [hY]; exact (aU_new HSQ.out W hab hbc hc).2.2.trans (by rw [HUE.out b c hb hc])] at u1
          have u0' : ∀ z : ExtOf w3, z.1.cell? ⟨G0, O0 + b, none⟩ = _ := fun z => z.2.cell u0
          have u1' : ∀ z : ExtOf w3, z.1.cell? ⟨ob4, oo4 + c, none⟩ = _ := fun z => z.2.cell u1
          have y0' : ∀ z : ExtOf w3, z.1.cell? ⟨bm, om + b, none⟩ = some (.slice (some ⟨br, or, none⟩) m.length cr) := fun z => (hmat z.1 (hx3.trans z.2)).1
          have y1' : ∀ z : ExtOf w3, z.1.cell? ⟨br, or + c, none⟩ = some (.int .i64 (ent m b c)) := fun z => (hmat z.1 (hx3.trans z.2)).2
          have HXD := hid hx3
          have HKD := hid hk3
          have HW3 := hid hw3
          have hWb2 := HWB2.out
          have hd : decide (X < Y + W) = false := by simp; omega
          have HZ := hid (And.intro z0' (And.intro z1' (And.intro u0' (And.intro u1' (And.intro y0' y1')))))
          clear xd hX hY hK hKd hO hO2 hev hx v3 v4 hobw hobl hx3 hk3 hw3 hne u0 u1 z0' z1' u0' u1' y0' y1' hmat habd
          go_wp2_with fail
          refine wp_region_tail 13 HW.out (by kernel_rfl) (by kernel_rfl) ?_
          simp only [List.take_succ_cons, List.take_zero, List.drop_succ_cons, List.drop_zero]
          repeat (first | go_big_quiet_step ((fail)) | (go_big_quiet_want; go_big_quiet_op; apply Exists.intro; refine ⟨?_, ?_⟩; (fail); go_big_quiet_on))
          refine wpQuiet_nil ?_
          go_wp2_with fail
          rw [← HW3.out]
          obtain ⟨z0', z1', u0', u1', y0', y1'⟩ := HZ.out
          refine wp_region_ext (by kernel_rfl) (by kernel_rfl) ?_
          repeat (go_big_quiet_step (((first | (go_at_call 91; exact quiet_same (HAB.out _))))))
          refine wpQuiet_nil ?_
          rintro w5 ⟨⟨_, x5⟩, rfl⟩
          clear z0' z1' u0' u1' y0' y1'
          go_wp2
          go_roundw
          case rel => exact ⟨3, by omega, rfl, HO2.out.ext x5, HKD.out.ext x5, HXD.out.trans x5⟩
          case measure => simp [intOf]
        · have HK9 := hid (HKP.out.via hK fun b _ hm => hm)
          have HSQ3 := hid (aU_sq HSQ.out W ha hb hc 3)
          have HO9 := hid hO
          clear hO hK
          go_wp2
          go_roundw
          case rel => exact ⟨k + 1, _, by omega, by go_num, HSQ3.out, HNX.out, HO9.out, HK9.out, hx⟩
          case measure => simp [intOf]; omega
    · clear hO hSQ hUE
      go_wp2
      go_ret
      exact ⟨rfl, hx⟩

set_option maxHeartbeats 1000000 in
set_option maxRecDepth 20000 in
theorem impl_PackingBound (v u : Value) (m : List (List Int)) (l : List Triangle) (w : World) (h : Sl (slR intR) w v m) (k0 : Sl triangleR w u l) (hm : WM m) (hp : PackB m l) (hl : l.length ≤ 56) :
    Calls Tryz.prog 88 #[v, u] w fun e w2 => e = .returned (.int .i64 (sumT l)) ∧ Ext w w2 := by
  have HA := hid (impl_IsPacking v u m l w h k0 hm hp hl)
  obtain ⟨A, cap, rfl, hm1⟩ := h.form
  obtain ⟨B, cap2, rfl, hm2⟩ := k0.form
  have HK0 := hid k0
  have HPK := hid hp
  clear hm h k0 hp
  go_enter Tryz.func88, Tryz.ntmps88
  go_wp2_with fail
  refine (HA.out).mono ?_
  rintro e w0 ⟨rfl, x0⟩
  go_wp2_with fail
  go_loopw [5, 14] (fun s i wr => ∃ k : Nat, k ≤ l.length ∧ i = .int .i64 k ∧ s = .int .i64 (sumT (l.take k)) ∧ Ext w wr) (fun _ i _ => l.length - (intOf i).toNat)
  case atStart => exact ⟨0, Nat.zero_le _, rfl, rfl, x0⟩
  case round =>
    clear x0
    obtain ⟨k, hk, rfl, rfl, hx⟩ := hrel
    have hsb := sumT_bd (l := l.take k) fun t ht => (HPK.out.tri t (List.mem_of_mem_take ht)).2
    rw [List.length_take] at hsb
    by_cases hlt : k < l.length
    · obtain ⟨bT, oT, eT, _, t0, t1, t2, t3⟩ := (HK0.out.mono hx).triangle hlt
      subst eT
      have HS := hid (show sumT (l.take (k + 1)) = sumT (l.take k) + l[k].weight from by rw [List.take_succ_eq_append_getElem hlt, sumT_snoc])
      have hwb := (HPK.out.tri l[k] (List.getElem_mem hlt)).2
      have HXA := hid ((Ext.refl wr).alloc (.cells #[.int .i64 l[k].a, .int .i64 l[k].b, .int .i64 l[k].c, .int .i64 l[k].weight] 91))
      obtain ⟨S, hS⟩ : ∃ S, S = sumT (l.take k) := ⟨_, rfl⟩
      rw [← hS] at HS hsb ⊢
      clear hS
      go_wp2
      go_roundw
      case rel => exact ⟨k + 1, by omega, by go_num, by rw [HS.out], hx.trans HXA.out⟩
      case measure => simp [intOf]; omega
    · have hkl : k = l.length := by omega
      subst hkl
      rw [List.take_length]
      go_wp2
      go_ret
      exact ⟨rfl, hx⟩

set_option maxHeartbeats 1000000 in
set_option maxRecDepth 20000 in
theorem impl_OptimalityGap (v z u : Value) (m : List (List Int)) (p : List Int) (l : List Triangle) (w : World) (h : Sl (slR intR) w v m) (hz : Sl intR w z p) (k0 : Sl triangleR w u l) (hm : WM m) (hp : PackB m l) (hl : l.length ≤ 56) (hpp : partB p = true) (hpl : p.length = m.length) :
    Calls Tryz.prog 38 #[v, z, u] w fun e w2 => e = .returned (.int .i64 (costP m p - sumT l)) ∧ Ext w w2 := by
  have HA := hid (impl_PartitionCost v z m p w h hz)
  rw [pcost_yes ⟨wmB_yes hm, hpp, hpl⟩] at HA
  have HB := hid (fun (W : World) (y : Ext w W) => impl_PackingBound v u m l W (h.mono y) (k0.mono y) hm hp hl)
  have c1 := costP_le hm (p := p) (by omega)
  have c2 := sumT_bd (l := l) fun t ht => (hp.tri t ht).2
  obtain ⟨A, cap, rfl, hm1⟩ := h.form
  obtain ⟨C, cap3, rfl, hm3⟩ := hz.form
  obtain ⟨B, cap2, rfl, hm2⟩ := k0.form
  obtain ⟨X, hX⟩ : ∃ X, X = costP m p := ⟨_, rfl⟩
  obtain ⟨Y, hY⟩ : ∃ Y, Y = sumT l := ⟨_, rfl⟩
  rw [← hX] at HA c1 ⊢
  rw [← hY] at HB c2 ⊢
  have d1 : decide (X < 0) = false := by simp; omega
  have d2 : decide (Y < 0) = false := by simp; omega
  clear hX hY h hz k0 hm hp hpp hpl
  go_enter Tryz.func38, Tryz.ntmps38
  go_wp2_with fail
  refine (HA.out).mono ?_
  rintro e w2 ⟨rfl, x2⟩
  go_wp2_with fail
  refine (HB.out _ x2).mono ?_
  rintro e w3 ⟨rfl, x3⟩
  go_wp2
  go_ret
  exact ⟨rfl, x2.trans x3⟩

end Go.Proofs.YtidchfncfcckiaaGreat

namespace Go.Proofs.YtidchfncfcckiaaGreat
open Go.RowKit

theorem pl_01 (x : Int) : 0 ≤ pl x ∧ pl x ≤ 1 := by unfold pl; split <;> omega
theorem ng_01 (x : Int) : 0 ≤ ng x ∧ ng x ≤ 1 := by unfold ng; split <;> omega
set_option maxHeartbeats 400000 in
theorem spec_l21Size (x : Int) (w : World) (hx : -1000 ≤ x ∧ x ≤ 1000) :
    Calls Tryz.prog 105 #[.int .i64 x] w fun e w2 => e = .returned (.int .i64 (ab x)) ∧ w = w2 := by
  by_cases h : x < 0
  · have HE := hid (show ab x = -x from by unfold ab; omega)
    have hd : decide (x < 0) = true := by simp [h]
    go_enter Tryz.func105, Tryz.ntmps105
    go_wp2
    go_ret
    exact ⟨ret_int HE.out.symm, rfl⟩
  · have HE := hid (show ab x = x from by unfold ab; omega)
    have hd : decide (x < 0) = false := by simp; omega
    go_enter Tryz.func105, Tryz.ntmps105
    go_wp2
    go_ret
    exact ⟨ret_int HE.out.symm, rfl⟩

set_option maxHeartbeats 2000000 in
set_option maxRecDepth 20000 in
theorem spec_IsBadTriangle (v : Value) (m : List (List Int)) (a b c : Nat) (w : World) (h : Sl (slR intR) w v m) (hm : WM m) (hab : a < b) (hbc : b < c) (hc : c < m.length) :
    Calls Tryz.prog 133 #[v, .int .i64 a, .int .i64 b, .int .i64 c] w fun e w2 => e = .returned (.bool (badB m a b c)) ∧ Ext w w2 := by
  have HA := hid (spec_IsWeightMatrix v m w h)
  rw [wmB_yes hm] at HA
  obtain ⟨A, cap, rfl, hm1⟩ := h.form
  have h8 := hm.n8
  have HT := hid (fun (p q : Nat) (hp : p < m.length) (hq : q < m.length) => mat_cells h hm hp hq)
  have HBW := hid (show badB m a b c = badW (ent m a b) (ent m a c) (ent m b c) from rfl)
  have HEB := hid (And.intro (hm.bd a b (by omega) (by omega)) (And.intro (hm.bd a c (by omega) hc) (hm.bd b c (by omega) hc)))
  have d0 : decide (a < 0) = false := by simp
  have d1 : decide (b ≤ a) = false := by simp; omega
  have d2 : decide (c ≤ b) = false := by simp; omega
  have d3 : decide (m.length ≤ c) = false := by simp; omega
  have ha : a < m.length := by omega
  have hb : b < m.length := by omega
  clear h hm
  go_enter Tryz.func133, Tryz.ntmps133
  go_wp2_with fail
  refine (HA.out).mono ?_
  rintro e w2 ⟨rfl, x2⟩
  obtain ⟨wd, hwd⟩ : ∃ wd : World, wd = w2.drew := ⟨_, rfl⟩
  have xd : Ext w wd := by rw [hwd]; exact x2.drew
  obtain ⟨bm, om, ba, oa, ca, eA, t1⟩ := HT.out a b ha hb
  subst eA
  obtain ⟨bm2, om2, ba2, oa2, ca2, eA, t2⟩ := HT.out a c ha hc
  injection eA with e9
  injection e9 with e8 e7 q3
  clear q3
  subst e8; subst e7
  obtain ⟨bm3, om3, bb, ob, cb, eA, t3⟩ := HT.out b c hb hc
  injection eA with e9
  injection e9 with e8 e7 q3
  clear q3
  subst e8; subst e7
  obtain ⟨k1, k2⟩ := t1 wd xd
  obtain ⟨k3, k4⟩ := t2 wd xd
  obtain ⟨k5, k6⟩ := t3 wd xd
  obtain ⟨x, hx⟩ : ∃ x, x = ent m a b := ⟨_, rfl⟩
  obtain ⟨y, hy⟩ : ∃ x, x = ent m a c := ⟨_, rfl⟩
  obtain ⟨z, hz⟩ : ∃ x, x = ent m b c := ⟨_, rfl⟩
  rw [← hx] at k2 HBW
  rw [← hy] at k4 HBW
  rw [← hz] at k6 HBW
  have HW := hid hwd
  have HX := hid (xd.alloc (.cells #[.int .i64 x, .int .i64 y, .int .i64 z] 3))
  have HB0 := hid (Blk.new wd 3 #[.int .i64 x, .int .i64 y, .int .i64 z])
  rw [k1] at k3
  injection k3 with k3
  injection k3 with k3 q1 q2
  injection k3 with k3
  injection k3 with k3 k7 q3
  subst k3; subst k7
  clear hx hy hz hwd xd t1 t2 t3 x2 q1 q2 q3
  go_wp2_with fail
  refine wp_region_tail 21 HW.out (by kernel_rfl) (by kernel_rfl) ?_
  simp only [List.take_succ_cons, List.take_zero, List.drop_succ_cons, List.drop_zero]
  repeat (first | go_big_quiet_step ((fail)) | (go_big_quiet_want; go_big_quiet_op; apply Exists.intro; refine ⟨?_, ?_⟩; (fail); go_big_quiet_on))
  refine wpQuiet_nil ?_
  go_wp2_with fail
  obtain ⟨wq, hwq⟩ : ∃ W, W = wd.alloc (.cells #[.int .i64 x, .int .i64 y, .int .i64 z] 3) := ⟨_, rfl⟩
  obtain ⟨g, hg⟩ : ∃ g, g = wd.heap.size := ⟨_, rfl⟩
  have HB := hid (show Blk wq g 3 [.int .i64 x, .int .i64 y, .int .i64 z] from by rw [hwq, hg]; exact HB0.out)
  rw [← hwq] at HX
  rw [← hwq, ← hg]
  clear hwq hg HB0 k1 k2 k4 k5 k6
  go_loop [9, 10, 12] (fun n p i => ∃ k : Nat, k ≤ 3 ∧ i = .int .i64 k ∧ n = .int .i64 (S3 ng x y z k) ∧ p = .int .i64 (S3 pl x y z k)) (fun _ _ i => 3 - (intOf i).toNat)
  case atStart => exact ⟨0, by omega, rfl, rfl, rfl⟩
  case round =>
    obtain ⟨k, hk, rfl, rfl, rfl⟩ := hrel
    rcases (show k = 0 ∨ k = 1 ∨ k = 2 ∨ k = 3 by omega) with rfl | rfl | rfl | rfl
    · have cE : wq.cell? ⟨g, 0, none⟩ = some (.int .i64 x) := HB.out.cells.1 0
      rcases (show x < 0 ∨ x = 0 ∨ 0 < x by omega) with hs | hs | hs
      · have d1 : decide (0 < x) = false := by simp; omega
        have d2 : decide (x < 0) = true := by simp [hs]
        have HP := hid (show S3 pl x y z 1 = S3 pl x y z 0 + 0 ∧ S3 ng x y z 1 = S3 ng x y z 0 + 1 from by simp only [S3]; unfold pl ng; constructor <;> (repeat' split) <;> omega)
        have hb1 := S3_bd pl_01 x y z 0
        have hb2 := S3_bd ng_01 x y z 0
        obtain ⟨P, hP⟩ : ∃ P, P = S3 pl x y z 0 := ⟨_, rfl⟩
        obtain ⟨N, hN⟩ : ∃ N, N = S3 ng x y z 0 := ⟨_, rfl⟩
        rw [← hP] at HP hb1 ⊢
        rw [← hN] at HP hb2 ⊢
        clear hs hP hN
        go_wp2
        go_round
        case rel => exact ⟨1, by omega, rfl, by rw [HP.out.2], by rw [HP.out.1]; simp⟩
        case measure => simp [intOf]
      · have d1 : decide (0 < x) = false := by simp [hs]
        have d2 : decide (x < 0) = false := by simp [hs]
        have HP := hid (show S3 pl x y z 1 = S3 pl x y z 0 + 0 ∧ S3 ng x y z 1 = S3 ng x y z 0 + 0 from by simp only [S3]; unfold pl ng; constructor <;> (repeat' split) <;> omega)
        have hb1 := S3_bd pl_01 x y z 0
        have hb2 := S3_bd ng_01 x y z 0
        obtain ⟨P, hP⟩ : ∃ P, P = S3 pl x y z 0 := ⟨_, rfl⟩
        obtain ⟨N, hN⟩ : ∃ N, N = S3 ng x y z 0 := ⟨_, rfl⟩
        rw [← hP] at HP hb1 ⊢
        rw [← hN] at HP hb2 ⊢
        clear hs hP hN
        go_wp2
        go_round
        case rel => exact ⟨1, by omega, rfl, by rw [HP.out.2]; simp, by rw [HP.out.1]; simp⟩
        case measure => simp [intOf]
      · have d1 : decide (0 < x) = true := by simp [hs]
        have d2 : decide (x < 0) = false := by simp; omega
        have HP := hid (show S3 pl x y z 1 = S3 pl x y z 0 + 1 ∧ S3 ng x y z 1 = S3 ng x y z 0 + 0 from by simp only [S3]; unfold pl ng; constructor <;> (repeat' split) <;> omega)
        have hb1 := S3_bd pl_01 x y z 0
        have hb2 := S3_bd ng_01 x y z 0
        obtain ⟨P, hP⟩ : ∃ P, P = S3 pl x y z 0 := ⟨_, rfl⟩
        obtain ⟨N, hN⟩ : ∃ N, N = S3 ng x y z 0 := ⟨_, rfl⟩
        rw [← hP] at HP hb1 ⊢
        rw [← hN] at HP hb2 ⊢
        clear hs hP hN
        go_wp2
        go_round
        case rel => exact ⟨1, by omega, rfl, by rw [HP.out.2]; simp, by rw [HP.out.1]⟩
        case measure => simp [intOf]
    · have cE : wq.cell? ⟨g, 1, none⟩ = some (.int .i64 y) := HB.out.cells.1 1
      rcases (show y < 0 ∨ y = 0 ∨ 0 < y by omega) with hs | hs | hs
      · have d1 : decide (0 < y) = false := by simp; omega
        have d2 : decide (y < 0) = true := by simp [hs]
        have HP := hid (show S3 pl x y z 2 = S3 pl x y z 1 + 0 ∧ S3 ng x y z 2 = S3 ng x y z 1 + 1 from by simp only [S3]; unfold pl ng; constructor <;> (repeat' split) <;> omega)
        have hb1 := S3_bd pl_01 x y z 1
        have hb2 := S3_bd ng_01 x y z 1
        obtain ⟨P, hP⟩ : ∃ P, P = S3 pl x y z 1 := ⟨_, rfl⟩
        obtain ⟨N, hN⟩ : ∃ N, N = S3 ng x y z 1 := ⟨_, rfl⟩
        rw [← hP] at HP hb1 ⊢
        rw [← hN] at HP hb2 ⊢
        clear hs hP hN
        go_wp2
        go_round
        case rel => exact ⟨2, by omega, rfl, by rw [HP.out.2], by rw [HP.out.1]; simp⟩
        case measure => simp [intOf]
      · have d1 : decide (0 < y) = false := by simp [hs]
        have d2 : decide (y < 0) = false := by simp [hs]
        have HP := hid (show S3 pl x y z 2 = S3 pl x y z 1 + 0 ∧ S3 ng x y z 2 = S3 ng x y z 1 + 0 from by simp only [S3]; unfold pl ng; constructor <;> (repeat' split) <;> omega)
        have hb1 := S3_bd pl_01 x y z 1
        have hb2 := S3_bd ng_01 x y z 1
        obtain ⟨P, hP⟩ : ∃ P, P = S3 pl x y z 1 := ⟨_, rfl⟩
        obtain ⟨N, hN⟩ : ∃ N, N = S3 ng x y z 1 := ⟨_, rfl⟩
        rw [← hP] at HP hb1 ⊢
        rw [← hN] at HP hb2 ⊢
        clear hs hP hN
        go_wp2
        go_round
        case rel => exact ⟨2, by omega, rfl, by rw [HP.out.2]; simp, by rw [HP.out.1]; simp⟩
        case measure => simp [intOf]
      · have d1 : decide (0 < y) = true := by simp [hs]
        have d2 : decide (y < 0) = false := by simp; omega
        have HP := hid (show S3 pl x y z 2 = S3 pl x y z 1 + 1 ∧ S3 ng x y z 2 = S3 ng x y z 1 + 0 from by simp only [S3]; unfold pl ng; constructor <;> (repeat' split) <;> omega)
        have hb1 := S3_bd pl_01 x y z 1
        have hb2 := S3_bd ng_01 x y z 1
        obtain ⟨P, hP⟩ : ∃ P, P = S3 pl x y z 1 := ⟨_, rfl⟩
        obtain ⟨N, hN⟩ : ∃ N, N = S3 ng x y z 1 := ⟨_, rfl⟩
        rw [← hP] at HP hb1 ⊢
        rw [← hN] at HP hb2 ⊢
        clear hs hP hN
        go_wp2
        go_round
        case rel => exact ⟨2, by omega, rfl, by rw [HP.out.2]; simp, by rw [HP.out.1]⟩
        case measure => simp [intOf]
    · have cE : wq.cell? ⟨g, 2, none⟩ = some (.int .i64 z) := HB.out.cells.1 2
      rcases (show z < 0 ∨ z = 0 ∨ 0 < z by omega) with hs | hs | hs
      · have d1 : decide (0 < z) = false := by simp; omega
        have d2 : decide (z < 0) = true := by simp [hs]
        have HP := hid (show S3 pl x y z 3 = S3 pl x y z 2 + 0 ∧ S3 ng x y z 3 = S3 ng x y z 2 + 1 from by simp only [S3]; unfold pl ng; constructor <;> (repeat' split) <;> omega)
        have hb1 := S3_bd pl_01 x y z 2
        have hb2 := S3_bd ng_01 x y z 2
        obtain ⟨P, hP⟩ : ∃ P, P = S3 pl x y z 2 := ⟨_, rfl⟩
        obtain ⟨N, hN⟩ : ∃ N, N = S3 ng x y z 2 := ⟨_, rfl⟩
        rw [← hP] at HP hb1 ⊢
        rw [← hN] at HP hb2 ⊢
        clear hs hP hN
        go_wp2
        go_round
        case rel => exact ⟨3, by omega, rfl, by rw [HP.out.2], by rw [HP.out.1]; simp⟩
        case measure => simp [intOf]
      · have d1 : decide (0 < z) = false := by simp [hs]
        have d2 : decide (z < 0) = false := by simp [hs]
        have HP := hid (show S3 pl x y z 3 = S3 pl x y z 2 + 0 ∧ S3 ng x y z 3 = S3 ng x y z 2 + 0 from by simp only [S3]; unfold pl ng; constructor <;> (repeat' split) <;> omega)
        have hb1 := S3_bd pl_01 x y z 2
        have hb2 := S3_bd ng_01 x y z 2
        obtain ⟨P, hP⟩ : ∃ P, P = S3 pl x y z 2 := ⟨_, rfl⟩
        obtain ⟨N, hN⟩ : ∃ N, N = S3 ng x y z 2 := ⟨_, rfl⟩
        rw [← hP] at HP hb1 ⊢
        rw [← hN] at HP hb2 ⊢
        clear hs hP hN
        go_wp2
        go_round
        case rel => exact ⟨3, by omega, rfl, by rw [HP.out.2]; simp, by rw [HP.out.1]; simp⟩
        case measure => simp [intOf]
      · have d1 : decide (0 < z) = true := by simp [hs]
        have d2 : decide (z < 0) = false := by simp; omega
        have HP := hid (show S3 pl x y z 3 = S3 pl x y z 2 + 1 ∧ S3 ng x y z 3 = S3 ng x y z 2 + 0 from by simp only [S3]; unfold pl ng; constructor <;> (repeat' split) <;> omega)
        have hb1 := S3_bd pl_01 x y z 2
        have hb2 := S3_bd ng_01 x y z 2
        obtain ⟨P, hP⟩ : ∃ P, P = S3 pl x y z 2 := ⟨_, rfl⟩
        obtain ⟨N, hN⟩ : ∃ N, N = S3 ng x y z 2 := ⟨_, rfl⟩
        rw [← hP] at HP hb1 ⊢
        rw [← hN] at HP hb2 ⊢
        clear hs hP hN
        go_wp2
        go_round
        case rel => exact ⟨3, by omega, rfl, by rw [HP.out.2]; simp, by rw [HP.out.1]⟩
        case measure => simp [intOf]
    · have HE := hid (show badW x y z = (decide (S3 ng x y z 3 = 1) && decide (S3 pl x y z 3 = 2)) from by
        unfold badW
        simp only [S3, Int.zero_add]
        rw [Bool.and_comm])
      have hb1 := S3_bd pl_01 x y z 3
      have hb2 := S3_bd ng_01 x y z 3
      obtain ⟨P, hP⟩ : ∃ P, P = S3 pl x y z 3 := ⟨_, rfl⟩
      obtain ⟨N, hN⟩ : ∃ N, N = S3 ng x y z 3 := ⟨_, rfl⟩
      rw [← hP] at HE hb1 ⊢
      rw [← hN] at HE hb2 ⊢
      clear hP hN
      by_cases h1 : N = 1
      · have e1 : (N == 1) = true := by simp [h1]
        by_cases h2 : P = 2
        · have e2 : (P == 2) = true := by simp [h2]
          have HV := hid (show badB m a b c = true from by rw [HBW.out, HE.out, h1, h2]; rfl)
          clear h1 h2
          go_wp2
          go_ret
          exact ⟨ret_bool HV.out.symm, HX.out⟩
        · have e2 : (P == 2) = false := by simp [h2]
          have HV := hid (show badB m a b c = false from by rw [HBW.out, HE.out, decide_eq_false h2, Bool.and_false])
          clear h1 h2
          go_wp2
          go_ret
          exact ⟨ret_bool HV.out.symm, HX.out⟩
      · have e1 : (N == 1) = false := by simp [h1]
        have HV := hid (show badB m a b c = false from by rw [HBW.out, HE.out, decide_eq_false h1, Bool.false_and])
        clear h1
        go_wp2
        go_ret
        exact ⟨ret_bool HV.out.symm, HX.out⟩
end Go.Proofs.YtidchfncfcckiaaGreat

namespace Go.Proofs.YtidchfncfcckiaaGreat
open Go.RowKit

set_option maxHeartbeats 8000000 in
set_option maxRecDepth 20000 in
theorem impl_GreedyPacking (v : Value) (m : List (List Int)) (w : World) (h : Sl (slR intR) w v m) (hm : WM m) :
    Calls Tryz.prog 39 #[v] w fun e w2 => ∃ v2 F, e = .returned v2 ∧ OwnSl triangleO w2 v2 (greedyL m) F ∧ NewF w F ∧ Ext w w2 := by
  obtain ⟨A, cap, rfl, hm1⟩ := h.form
  have h8 := hm.n8
  have h1 := hm.n1
  have HM := hid hm
  have HH := hid h
  have HSQ0 := hid (impl_square m.length w (by omega))
  have HBT := hid (fun (W : World) (y : Ext w W) => impl_BadTriangles _ m W (h.mono y) hm)
  have HBL := hid (badL_len h8)
  have HN := hid (And.intro h1 h8)
  clear hm h h8 h1
  go_enter Tryz.func39, Tryz.ntmps39
  go_wp2_with fail
  refine (HSQ0.out).mono ?_
  rintro e w1 ⟨v1, F1, rfl, o1, n1, x1⟩
  obtain ⟨G0, O0, c1, b0, o0, cpb0, e1, k1, k2, k3, k4, k5, k6⟩ := o1.ints_store n1.1 (i := 0) (s := 0) (by rw [List.length_replicate]; exact HN.out.1) (by rw [List.getElem_replicate, List.length_replicate]; exact HN.out.1)
  clear k1 k2 k3 k4 k5 k6
  rw [List.length_replicate] at e1
  subst e1
  have HO1 := hid (show OwnSl (slO intO) w1 (.slice (some ⟨G0, O0, none⟩) m.length c1) (sqM m.length) F1 from o1)
  have HF1 := hid n1
  have HX1 := hid x1
  clear o1 n1 x1
  go_wp2_with fail
  refine (HBT.out _ HX1.out).mono ?_
  rintro e wB ⟨vB, FB, rfl, oB, nB, xB⟩
  obtain ⟨AB, cB', eB, _⟩ := oB.form
  subst eB
  have HXB := hid (HX1.out.trans xB)
  have HOB := hid oB
  have HO2 := hid (HO1.out.ext xB)
  have HDJ := hid (show ∀ b ∈ F1, b < wB.heap.size ∧ b ∉ FB from fun b hb => ⟨(HO1.out.ext xB).lt b hb, fun hm => by have := nB.2 b hm; have := HO1.out.lt b hb; omega⟩)
  obtain ⟨BT, hBT⟩ : ∃ BT, BT = badL m := ⟨_, rfl⟩
  have HBTE := hid hBT
  rw [← hBT] at HOB HBL ⊢
  have HG := hid (show greedyL m = BT.foldl (grSt m) [] from by rw [hBT]; rfl)
  clear oB nB xB HO1 hBT
  go_wp2_with fail
  go_loopw [3, 17] (fun t i wr => ∃ (k : Nat) (U : List (List Int)), k ≤ BT.length ∧ i = .int .i64 k ∧ Sq m.length U ∧ (∀ x y, x < m.length → y < m.length → ent U x y = usedT ((BT.take k).foldl (grSt m) []) x y) ∧
    OwnSl (slO intO) wr (.slice (some ⟨G0, O0, none⟩) m.length c1) U F1 ∧ Bld triangleO wr wB.heap.size 91 t ((BT.take k).foldl (grSt m) []) [] ∧ KeepB wB wr F1 ∧ Ext w wr) (fun _ i _ => BT.length - (intOf i).toNat)
  case atStart => exact ⟨0, sqM m.length, Nat.zero_le _, rfl, sqM_sq _, fun x y hx hy => by rw [sqM_ent hx hy]; rfl, HO2.out, Bld.nil _ _ _, KeepB.refl _ _, HXB.out⟩
  case round =>
    clear HO2
    obtain ⟨k, U, hk, rfl, hSQ, hUE, hO, hB, hK, hx⟩ := hrel
    by_cases hlt : k < BT.length
    · have HTC := hid (HOB.out.keep (w2 := wr) fun b hb => hK.2 b (HOB.out.lt b hb) fun hm => (HDJ.out b hm).2 hb)
      obtain ⟨bT, oT, eT, _, t0, t1, t2, t3⟩ := HTC.out.sl.triangle hlt
      subst eT
      have hmem : BT[k] ∈ badL m := by rw [← HBTE.out]; exact List.getElem_mem hlt
      obtain ⟨a, b, c, hab, hbc, hc, hbad, hT⟩ := tA_mem m.length (Nat.le_refl _) _ hmem
      have ha : a < m.length := by omega
      have hb : b < m.length := by omega
      obtain ⟨hpk, hpl⟩ := greedy_to HM.out k
      rw [← HBTE.out] at hpk hpl
      have HGR := hid (grSt_take (m := m) hlt)
      rw [hT] at t0 t1 t2 t3 HGR
      obtain ⟨out, hout⟩ : ∃ o, o = (BT.take k).foldl (grSt m) [] := ⟨_, rfl⟩
      rw [← hout] at hUE hB hpk hpl HGR
      have HFIT := hid (fun (x y : Nat) (hxy : x < y) (hy : y < m.length) => hpk.fit x y hxy hy)
      have f1 := HFIT.out a b hab hb
      have f2 := HFIT.out a c (by omega) hc
      have f3 := HFIT.out b c hbc hc
      have g1 := ab_bd HM.out ha hb
      have g2 := ab_bd HM.out ha hc
      have g3 := ab_bd HM.out hb hc
      have HGW := hid (show wS (min3 (ab (ent m a b)) (ab (ent m a c)) (ab (ent m b c))) (ab (ent m a b) - usedT out a b) (ab (ent m a c) - usedT out a c) (ab (ent m b c) - usedT out b c) 3 = grW m out (mkT m a b c) from wS_fin f1.1 f2.1 f3.1)
      obtain ⟨w0, hw0⟩ : ∃ x, x = min3 (ab (ent m a b)) (ab (ent m a c)) (ab (ent m b c)) := ⟨_, rfl⟩
      obtain ⟨l1, hl1⟩ : ∃ x, x = ab (ent m a b) - usedT out a b := ⟨_, rfl⟩
      obtain ⟨l2, hl2⟩ : ∃ x, x = ab (ent m a c) - usedT out a c := ⟨_, rfl⟩
      obtain ⟨l3, hl3⟩ : ∃ x, x = ab (ent m b c) - usedT out b c := ⟨_, rfl⟩
      rw [← hw0, ← hl1, ← hl2, ← hl3] at HGW
      have HWB := hid (show (0 ≤ w0 ∧ w0 ≤ 1000) ∧ (0 ≤ l1 ∧ l1 ≤ 1000) ∧ (0 ≤ l2 ∧ l2 ≤ 1000) ∧ (0 ≤ l3 ∧ l3 ≤ 1000) from by
        have := min3_le (ab (ent m a b)) (ab (ent m a c)) (ab (ent m b c))
        rw [hw0, hl1, hl2, hl3]; omega)
      have HL1 := hid hl1
      have HL2 := hid hl2
      have HL3 := hid hl3
      have HMK := hid (show mkT m a b c = ⟨a, b, c, w0⟩ from by rw [hw0]; rfl)
      rw [HMK.out] at t0 t1 t2 t3
      dsimp only at t0 t1 t2 t3
      have hac : a < c := by omega
      have hbl9 : BT.length ≤ 56 := HBL.out
      have HGS := hid (show grSt m out (mkT m a b c) = if 0 < grW m out (mkT m a b c) then out ++ [{ mkT m a b c with weight := grW m out (mkT m a b c) }] else out from rfl)
      have HUE := hid hUE
      have HSQ := hid hSQ
      have HPL := hid hpl
      have HB := hid hB
      have HKO := hid hK
      have HOO := hid hO
      have HXO := hid hx
      have hnab : (a : Int) < (m.length : Int) := by omega
      have hnbb : (b : Int) < (m.length : Int) := by omega
      have hncb : (c : Int) < (m.length : Int) := by omega
      have HOUT := hid hout
      clear hSQ hUE hO hB hK hx hmem hT hpk hpl hout hw0 hl1 hl2 hl3 f1 f2 f3 g1 g2 g3 hbad
      obtain ⟨g6, hg6⟩ : ∃ g, g = wr.heap.size := ⟨_, rfl⟩
      have HG6E := hid hg6
      have hxa : Ext wr (wr.alloc (.cells #[.int .i64 (a : Int), .int .i64 (b : Int), .int .i64 (c : Int), .int .i64 w0] 91)) := (Ext.refl _).alloc _
      have HBX := hid (show Blk (wr.alloc (.cells #[.int .i64 (a : Int), .int .i64 (b : Int), .int .i64 (c : Int), .int .i64 w0] 91)) g6 91 [.int .i64 (a : Int), .int .i64 (b : Int), .int .i64 (c : Int), .int .i64 w0] from by rw [hg6]; exact Blk.new wr 91 #[.int .i64 (a : Int), .int .i64 (b : Int), .int .i64 (c : Int), .int .i64 w0])
      have HP1 := hid (impl_pairs ⟨a, b, c, w0⟩ (wr.alloc (.cells #[.int .i64 (a : Int), .int .i64 (b : Int), .int .i64 (c : Int), .int .i64 w0] 91)))
      have HXA := hid hxa
      clear hg6 hxa
      go_wp2_with fail
      refine (HP1.out).mono ?_
      rintro e wq ⟨rfl, xq⟩
      have HXQ := hid (HXA.out.trans xq)
      have HBQ := hid (HBX.out.ext xq)
      have HG6 := hid (show w.heap.size ≤ g6 from by rw [HG6E.out]; exact HXO.out.size)
      have HG6B := hid (show wB.heap.size ≤ g6 from by rw [HG6E.out]; exact HKO.out.1)
      have HG6N := hid (show g6 ∉ F1 from fun hm => by have := (HDJ.out g6 hm).1; have := HG6B.out; omega)
      have HU := hid (show ∀ W, KeepB wq W [g6] → OwnSl (slO intO) W (.slice (some ⟨G0, O0, none⟩) m.length c1) U F1 from fun W y => (HOO.out.ext HXQ.out).keep fun b hb => y.2 b (Nat.lt_of_lt_of_le (HOO.out.lt b hb) HXQ.out.size) (by simp; intro e; exact HG6N.out (e ▸ hb)))
      have HKB := hid (show ∀ W, KeepB wq W [g6] → KeepB wB W F1 from fun W y => (HKO.out.ext HXQ.out).via y (fun b hb hm => by rw [List.mem_singleton] at hm; have := HG6B.out; omega))
      have HBK := hid (show ∀ W, KeepB wq W [g6] → Bld triangleO W wB.heap.size 91 _ out [] from fun W y => (HB.out.ext HXQ.out).stayF fun b hb => y.2 b (Nat.lt_of_lt_of_le (HB.out.lt.2 b hb).1 HXQ.out.size) (by simp; intro e; have := (HB.out.lt.2 b hb).1; have := HG6E.out; omega))
      have HXWQ := hid (HXO.out.trans HXQ.out)
      clear xq t0 t1 t2 t3
      go_wp2_with fail
      rw [← HG6E.out]
      go_loopw [23] (fun i wr => ∃ j : Nat, j ≤ 3 ∧ i = .int .i64 j ∧ Blk wr g6 91 [.int .i64 (a : Int), .int .i64 (b : Int), .int .i64 (c : Int), .int .i64 (wS w0 l1 l2 l3 j)] ∧ KeepB wq wr [g6] ∧ Ext w wr) (fun i _ => 3 - (intOf i).toNat)
      case atStart => exact ⟨0, Nat.zero_le _, rfl, HBQ.out, KeepB.refl _ _, HXWQ.out⟩
      case round =>
        clear HBQ
        obtain ⟨j, hj, rfl, hB6, hK, hx⟩ := hrel
        have hjj : j = 0 ∨ j = 1 ∨ j = 2 ∨ j = 3 := by omega
        rcases hjj with rfl | rfl | rfl | rfl
        · obtain ⟨bm, om, br, or, cr, eA, hmat⟩ := mat_cells HH.out HM.out ha hb
          subst eA
          have hix := fun (W : World) => ix3_0 (a : Int) b a c b c W
          obtain ⟨wd, hwd⟩ : ∃ W, W = (wr.alloc (.cells #[.int .i64 (a : Int), .int .i64 (b : Int)] 92)).drew := ⟨_, rfl⟩
          have xd : Ext wr wd := by rw [hwd]; exact ((Ext.refl wr).alloc _).drew
          have bb : Blk wd wr.heap.size 92 [.int .i64 (a : Int), .int .i64 (b : Int)] := by rw [hwd]; exact (Blk.new wr 92 #[.int .i64 (a : Int), .int .i64 (b : Int)]).ext (Ext.refl _).drew
          have z0 : wd.cell? ⟨wr.heap.size, 0, none⟩ = some (.int .i64 (a : Int)) := bb.cells.1 0
          have z1 : wd.cell? ⟨wr.heap.size, 1, none⟩ = some (.int .i64 (b : Int)) := bb.cells.1 1
          have HW := hid hwd
          clear bb hwd
          obtain ⟨ob, oo, oc, v0, v1, _, _, _⟩ := (HU.out wd (hK.ext xd)).tab HF1.out.1 HSQ.out ha hb
          obtain ⟨y0, y1⟩ := hmat wd (hx.trans xd)
          have hbW := hB6.ext xd
          have t3 : wd.cell? ⟨g6, 3, none⟩ = some (.int .i64 (wS w0 l1 l2 l3 0)) := hbW.cells.1 3
          have f3 := hbW.cells.2 3
          rw [show ent U a b = usedT out a b from HUE.out a b ha hb] at v1
          have habd := HM.out.bd a b ha hb
          have HAB := hid (fun (W : World) => impl_absolute (ent m a b) W (by omega))
          have hle : ab (ent m a b) - usedT out a b = l1 := HL1.out.symm
          have hub := HFIT.out a b hab hb
          have hx1 := (ab_bd HM.out ha hb).2
          have hWb := wS_bd w0 l1 l2 l3 HWB.out 0
          have HS1 := hid (show wS w0 l1 l2 l3 1 = if l1 < wS w0 l1 l2 l3 0 then l1 else wS w0 l1 l2 l3 0 from rfl)
          obtain ⟨X, hX⟩ : ∃ X, X = ab (ent m a b) := ⟨_, rfl⟩
          rw [← hX] at HAB hle hub hx1
          obtain ⟨Y, hY⟩ : ∃ Y, Y = usedT out a b := ⟨_, rfl⟩
          rw [← hY] at v1 hle hub
          have HLE := hid hle
          obtain ⟨V, hV⟩ : ∃ V, V = wS w0 l1 l2 l3 0 := ⟨_, rfl⟩
          rw [← hV] at t3 hWb HS1 hbW
          have HXD := hid (hx.trans xd)
          have HKD := hid (hK.ext xd)
          have HBB0 := hid hbW
          clear hmat xd hX hY hV hK hB6 hbW habd hle hx
          by_cases hlt : X - Y < V
          · have HS2 := hid (show wS w0 l1 l2 l3 1 = X - Y from by rw [HS1.out, if_pos (by rw [← HLE.out]; exact hlt), HLE.out])
            have HBB := hid (HBB0.out.set3 (.int .i64 (X - Y)))
            go_wp2_with fail
            refine wp_region_tail 24 HW.out (by kernel_rfl) (by kernel_rfl) ?_
            simp only [List.take_succ_cons, List.take_zero, List.drop_succ_cons, List.drop_zero]
            repeat (first | go_big_quiet_step ((fail)) | (go_big_quiet_want; go_big_quiet_op; apply Exists.intro; refine ⟨?_, ?_⟩; ((first | (go_at_call 91; exact quiet_tail (HAB.out _)))); go_big_quiet_on))
            refine wpQuiet_nil ?_
            go_wp2
            go_roundw
            case rel => exact ⟨1, by omega, rfl, by rw [HS2.out]; exact HBB.out, HKD.out.set (by simp) _, HXD.out.setCell (p := ⟨g6, 3, none⟩) HG6.out _⟩
            case measure => simp [intOf]
          · have HS2 := hid (show wS w0 l1 l2 l3 1 = V from by rw [HS1.out, if_neg (by rw [← HLE.out]; exact hlt)])
            have HBB := hid (HBB0.out.set3 (.int .i64 V))
            go_wp2_with fail
            refine wp_region_tail 24 HW.out (by kernel_rfl) (by kernel_rfl) ?_
            simp only [List.take_succ_cons, List.take_zero, List.drop_succ_cons, List.drop_zero]
            repeat (first | go_big_quiet_step ((fail)) | (go_big_quiet_want; go_big_quiet_op; apply Exists.intro; refine ⟨?_, ?_⟩; ((first | (go_at_call 91; exact quiet_tail (HAB.out _)))); go_big_quiet_on))
            refine wpQuiet_nil ?_
            go_wp2
            go_roundw
            case rel => exact ⟨1, by omega, rfl, by rw [HS2.out]; exact HBB.out, HKD.out.set (by simp) _, HXD.out.setCell (p := ⟨g6, 3, none⟩) HG6.out _⟩
            case measure => simp [intOf]
        · obtain ⟨bm, om, br, or, cr, eA, hmat⟩ := mat_cells HH.out HM.out ha hc
          subst eA
          have hix := fun (W : World) => ix3_1 (a : Int) b a c b c W
          obtain ⟨wd, hwd⟩ : ∃ W, W = (wr.alloc (.cells #[.int .i64 (a : Int), .int .i64 (c : Int)] 92)).drew := ⟨_, rfl⟩
          have xd : Ext wr wd := by rw [hwd]; exact ((Ext.refl wr).alloc _).drew
          have bb : Blk wd wr.heap.size 92 [.int .i64 (a : Int), .int .i64 (c : Int)] := by rw [hwd]; exact (Blk.new wr 92 #[.int .i64 (a : Int), .int .i64 (c : Int)]).ext (Ext.refl _).drew
          have z0 : wd.cell? ⟨wr.heap.size, 0, none⟩ = some (.int .i64 (a : Int)) := bb.cells.1 0
          have z1 : wd.cell? ⟨wr.heap.size, 1, none⟩ = some (.int .i64 (c : Int)) := bb.cells.1 1
          have HW := hid hwd
          clear bb hwd
          obtain ⟨ob, oo, oc, v0, v1, _, _, _⟩ := (HU.out wd (hK.ext xd)).tab HF1.out.1 HSQ.out ha hc
          obtain ⟨y0, y1⟩ := hmat wd (hx.trans xd)
          have hbW := hB6.ext xd
          have t3 : wd.cell? ⟨g6, 3, none⟩ = some (.int .i64 (wS w0 l1 l2 l3 1)) := hbW.cells.1 3
          have f3 := hbW.cells.2 3
          rw [show ent U a c = usedT out a c from HUE.out a c ha hc] at v1
          have habd := HM.out.bd a c ha hc
          have HAB := hid (fun (W : World) => impl_absolute (ent m a c) W (by omega))
          have hle : ab (ent m a c) - usedT out a c = l2 := HL2.out.symm
          have hub := HFIT.out a c hac hc
          have hx1 := (ab_bd HM.out ha hc).2
          have hWb := wS_bd w0 l1 l2 l3 HWB.out 1
          have HS1 := hid (show wS w0 l1 l2 l3 2 = if l2 < wS w0 l1 l2 l3 1 then l2 else wS w0 l1 l2 l3 1 from rfl)
          obtain ⟨X, hX⟩ : ∃ X, X = ab (ent m a c) := ⟨_, rfl⟩
          rw [← hX] at HAB hle hub hx1
          obtain ⟨Y, hY⟩ : ∃ Y, Y = usedT out a c := ⟨_, rfl⟩
          rw [← hY] at v1 hle hub
          have HLE := hid hle
          obtain ⟨V, hV⟩ : ∃ V, V = wS w0 l1 l2 l3 1 := ⟨_, rfl⟩
          rw [← hV] at t3 hWb HS1 hbW
          have HXD := hid (hx.trans xd)
          have HKD := hid (hK.ext xd)
          have HBB0 := hid hbW
          clear hmat xd hX hY hV hK hB6 hbW habd hle hx
          by_cases hlt : X - Y < V
          · have HS2 := hid (show wS w0 l1 l2 l3 2 = X - Y from by rw [HS1.out, if_pos (by rw [← HLE.out]; exact hlt), HLE.out])
            have HBB := hid (HBB0.out.set3 (.int .i64 (X - Y)))
            go_wp2_with fail
            refine wp_region_tail 24 HW.out (by kernel_rfl) (by kernel_rfl) ?_
            simp only [List.take_succ_cons, List.take_zero, List.drop_succ_cons, List.drop_zero]
            repeat (first | go_big_quiet_step ((fail)) | (go_big_quiet_want; go_big_quiet_op; apply Exists.intro; refine ⟨?_, ?_⟩; ((first | (go_at_call 91; exact quiet_tail (HAB.out _)))); go_big_quiet_on))
            refine wpQuiet_nil ?_
            go_wp2
            go_roundw
            case rel => exact ⟨2, by omega, rfl, by rw [HS2.out]; exact HBB.out, HKD.out.set (by simp) _, HXD.out.setCell (p := ⟨g6, 3, none⟩) HG6.out _⟩
            case measure => simp [intOf]
          · have HS2 := hid (show wS w0 l1 l2 l3 2 = V from by rw [HS1.out, if_neg (by rw [← HLE.out]; exact hlt)])
            have HBB := hid (HBB0.out.set3 (.int .i64 V))
            go_wp2_with fail
            refine wp_region_tail 24 HW.out (by kernel_rfl) (by kernel_rfl) ?_
            simp only [List.take_succ_cons, List.take_zero, List.drop_succ_cons, List.drop_zero]
            repeat (first | go_big_quiet_step ((fail)) | (go_big_quiet_want; go_big_quiet_op; apply Exists.intro; refine ⟨?_, ?_⟩; ((first | (go_at_call 91; exact quiet_tail (HAB.out _)))); go_big_quiet_on))
            refine wpQuiet_nil ?_
            go_wp2
            go_roundw
            case rel => exact ⟨2, by omega, rfl, by rw [HS2.out]; exact HBB.out, HKD.out.set (by simp) _, HXD.out.setCell (p := ⟨g6, 3, none⟩) HG6.out _⟩
            case measure => simp [intOf]
        · obtain ⟨bm, om, br, or, cr, eA, hmat⟩ := mat_cells HH.out HM.out hb hc
          subst eA
          have hix := fun (W : World) => ix3_2 (a : Int) b a c b c W
          obtain ⟨wd, hwd⟩ : ∃ W, W = (wr.alloc (.cells #[.int .i64 (b : Int), .int .i64 (c : Int)] 92)).drew := ⟨_, rfl⟩
          have xd : Ext wr wd := by rw [hwd]; exact ((Ext.refl wr).alloc _).drew
          have bb : Blk wd wr.heap.size 92 [.int .i64 (b : Int), .int .i64 (c : Int)] := by rw [hwd]; exact (Blk.new wr 92 #[.int .i64 (b : Int), .int .i64 (c : Int)]).ext (Ext.refl _).drew
          have z0 : wd.cell? ⟨wr.heap.size, 0, none⟩ = some (.int .i64 (b : Int)) := bb.cells.1 0
          have z1 : wd.cell? ⟨wr.heap.size, 1, none⟩ = some (.int .i64 (c : Int)) := bb.cells.1 1
          have HW := hid hwd
          clear bb hwd
          obtain ⟨ob, oo, oc, v0, v1, _, _, _⟩ := (HU.out wd (hK.ext xd)).tab HF1.out.1 HSQ.out hb hc
          obtain ⟨y0, y1⟩ := hmat wd (hx.trans xd)
          have hbW := hB6.ext xd
          have t3 : wd.cell? ⟨g6, 3, none⟩ = some (.int .i64 (wS w0 l1 l2 l3 2)) := hbW.cells.1 3
          have f3 := hbW.cells.2 3
          rw [show ent U b c = usedT out b c from HUE.out b c hb hc] at v1
          have habd := HM.out.bd b c hb hc
          have HAB := hid (fun (W : World) => impl_absolute (ent m b c) W (by omega))
          have hle : ab (ent m b c) - usedT out b c = l3 := HL3.out.symm
          have hub := HFIT.out b c hbc hc
          have hx1 := (ab_bd HM.out hb hc).2
          have hWb := wS_bd w0 l1 l2 l3 HWB.out 2
          have HS1 := hid (show wS w0 l1 l2 l3 3 = if l3 < wS w0 l1 l2 l3 2 then l3 else wS w0 l1 l2 l3 2 from rfl)
          obtain ⟨X, hX⟩ : ∃ X, X = ab (ent m b c) := ⟨_, rfl⟩
          rw [← hX] at HAB hle hub hx1
          obtain ⟨Y, hY⟩ : ∃ Y, Y = usedT out b c := ⟨_, rfl⟩
          rw [← hY] at v1 hle hub
          have HLE := hid hle
          obtain ⟨V, hV⟩ : ∃ V, V = wS w0 l1 l2 l3 2 := ⟨_, rfl⟩
          rw [← hV] at t3 hWb HS1 hbW
          have HXD := hid (hx.trans xd)
          have HKD := hid (hK.ext xd)
          have HBB0 := hid hbW
          clear hmat xd hX hY hV hK hB6 hbW habd hle hx
          by_cases hlt : X - Y < V
          · have HS2 := hid (show wS w0 l1 l2 l3 3 = X - Y from by rw [HS1.out, if_pos (by rw [← HLE.out]; exact hlt), HLE.out])
            have HBB := hid (HBB0.out.set3 (.int .i64 (X - Y)))
            go_wp2_with fail
            refine wp_region_tail 24 HW.out (by kernel_rfl) (by kernel_rfl) ?_
            simp only [List.take_succ_cons, List.take_zero, List.drop_succ_cons, List.drop_zero]
            repeat (first | go_big_quiet_step ((fail)) | (go_big_quiet_want; go_big_quiet_op; apply Exists.intro; refine ⟨?_, ?_⟩; ((first | (go_at_call 91; exact quiet_tail (HAB.out _)))); go_big_quiet_on))
            refine wpQuiet_nil ?_
            go_wp2
            go_roundw
            case rel => exact ⟨3, by omega, rfl, by rw [HS2.out]; exact HBB.out, HKD.out.set (by simp) _, HXD.out.setCell (p := ⟨g6, 3, none⟩) HG6.out _⟩
            case measure => simp [intOf]
          · have HS2 := hid (show wS w0 l1 l2 l3 3 = V from by rw [HS1.out, if_neg (by rw [← HLE.out]; exact hlt)])
            have HBB := hid (HBB0.out.set3 (.int .i64 V))
            go_wp2_with fail
            refine wp_region_tail 24 HW.out (by kernel_rfl) (by kernel_rfl) ?_
            simp only [List.take_succ_cons, List.take_zero, List.drop_succ_cons, List.drop_zero]
            repeat (first | go_big_quiet_step ((fail)) | (go_big_quiet_want; go_big_quiet_op; apply Exists.intro; refine ⟨?_, ?_⟩; ((first | (go_at_call 91; exact quiet_tail (HAB.out _)))); go_big_quiet_on))
            refine wpQuiet_nil ?_
            go_wp2
            go_roundw
            case rel => exact ⟨3, by omega, rfl, by rw [HS2.out]; exact HBB.out, HKD.out.set (by simp) _, HXD.out.setCell (p := ⟨g6, 3, none⟩) HG6.out _⟩
            case measure => simp [intOf]
        · have hWb := wS_bd w0 l1 l2 l3 HWB.out 3
          rw [HGW.out] at hWb hB6
          obtain ⟨W, hWe⟩ : ∃ W, W = grW m out (mkT m a b c) := ⟨_, rfl⟩
          rw [← hWe] at HGS hWb hB6
          obtain ⟨q0, q1, q2, q3⟩ := hB6.c4.1
          have HB6 := hid hB6
          have HK6 := hid hK
          have HX6 := hid hx
          clear hB6 hK hx hWe
          by_cases hW1 : W < 1
          · have hWd : decide (W < 1) = true := by simp [hW1]
            have HST := hid (show (BT.take (k + 1)).foldl (grSt m) [] = out from by rw [HGR.out, HGS.out, if_neg (by omega)])
            clear hW1
            go_wp2
            go_roundw
            case rel => exact ⟨k + 1, U, by omega, by go_num, HSQ.out, by rw [HST.out]; exact HUE.out, HU.out _ HK6.out, by rw [HST.out]; exact HBK.out _ HK6.out, HKB.out _ HK6.out, HX6.out⟩
            case measure => simp [intOf]; omega
          · have hWd : decide (W < 1) = false := by simp; omega
            have HST := hid (show (BT.take (k + 1)).foldl (grSt m) [] = out ++ [⟨a, b, c, W⟩] from by rw [HGR.out, HGS.out, if_pos (by omega), HMK.out])
            have HWB2 := hid (show 0 ≤ W ∧ W ≤ 1000 from hWb)
            have HP2 := hid (fun (Y : World) => impl_pairs ⟨a, b, c, W⟩ Y)
            have HO6 := hid (HU.out _ HK6.out)
            have HB66 := hid (HBK.out _ HK6.out)
            have HK66 := hid (HKB.out _ HK6.out)
            clear hW1
            go_wp2_with fail
            refine (HP2.out _).mono ?_
            rintro e wp ⟨rfl, xp⟩
            have HXP := hid (HX6.out.trans xp)
            have HT3 := hid (show wp.cell? ⟨g6, 3, none⟩ = some (.int .i64 W) from (HB6.out.ext xp).cells.1 3)
            have HB6P := hid (HB6.out.ext xp)
            have HBP := hid (HB66.out.ext xp)
            have HKP := hid (HK66.out.ext xp)
            have HOP := hid (HO6.out.ext xp)
            clear xp q0 q1 q2 q3
            go_wp2_with fail
            go_loopw [56] (fun i wr => ∃ j : Nat, j ≤ 3 ∧ i = .int .i64 j ∧ OwnSl (slO intO) wr (.slice (some ⟨G0, O0, none⟩) m.length c1) (aU U W a b c j) F1 ∧ KeepB wp wr F1 ∧ Ext w wr) (fun i _ => 3 - (intOf i).toNat)
            case atStart => exact ⟨0, Nat.zero_le _, rfl, HOP.out, KeepB.refl _ _, HXP.out⟩
            case round =>
              clear HOP
              obtain ⟨j, hj, rfl, hO, hK, hx⟩ := hrel
              have hjj : j = 0 ∨ j = 1 ∨ j = 2 ∨ j = 3 := by omega
              rcases hjj with rfl | rfl | rfl | rfl
              · have hix := fun (W : World) => ix3_0 (a : Int) b a c b c W
                obtain ⟨wd, hwd⟩ : ∃ W, W = (wr.alloc (.cells #[.int .i64 (a : Int), .int .i64 (b : Int)] 92)).drew := ⟨_, rfl⟩
                have xd : Ext wr wd := by rw [hwd]; exact ((Ext.refl wr).alloc _).drew
                have bb : Blk wd wr.heap.size 92 [.int .i64 (a : Int), .int .i64 (b : Int)] := by rw [hwd]; exact (Blk.new wr 92 #[.int .i64 (a : Int), .int .i64 (b : Int)]).ext (Ext.refl _).drew
                have z0 : wd.cell? ⟨wr.heap.size, 0, none⟩ = some (.int .i64 (a : Int)) := bb.cells.1 0
                have z1 : wd.cell? ⟨wr.heap.size, 1, none⟩ = some (.int .i64 (b : Int)) := bb.cells.1 1
                have HW := hid hwd
                clear bb hwd
                obtain ⟨ob, oo, oc, v0, v1, v2, v3, v4⟩ := (hO.ext xd).tab HF1.out.1 (aU_sq HSQ.out W ha hb hc 0) ha hb
                have hKd := hK.ext xd
                have t3 : wd.cell? ⟨g6, 3, none⟩ = some (.int .i64 W) := hKd.cell HG6N.out HT3.out
                have hev : ent (aU U W a b c 0) a b = usedT out a b := (aU_at HSQ.out W hab hbc hc).1.trans (HUE.out a b ha hb)
                have hub := HFIT.out a b hab hb
                have hx1 := (ab_bd HM.out ha hb).2
                have hO2 := v4 (ent (aU U W a b c 0) a b + W) (by rw [hev]; unfold I64; have := HWB2.out; omega)
                have HO2 := hid (show OwnSl (slO intO) _ _ (aU U W a b c 1) F1 from hO2)
                rw [hev] at v1 HO2
                have hobw : w.heap.size ≤ ob := HF1.out.2 ob v3
                have HXD := hid ((hx.trans xd).setCell (p := ⟨ob, oo + b, none⟩) hobw (.int .i64 (usedT out a b + W)))
                have HKD := hid (hKd.set (i := oo + b) v3 (.int .i64 (usedT out a b + W)))
                obtain ⟨Y, hY⟩ : ∃ Y, Y = usedT out a b := ⟨_, rfl⟩
                rw [← hY] at v1 hub HO2 HXD HKD
                have hWb2 := HWB2.out
                clear xd hY hK hKd hO hO2 hev hx v3 v4 hobw
                go_wp2_with fail
                refine wp_region_tail 13 HW.out (by kernel_rfl) (by kernel_rfl) ?_
                simp only [List.take_succ_cons, List.take_zero, List.drop_succ_cons, List.drop_zero]
                repeat (first | go_big_quiet_step ((fail)) | (go_big_quiet_want; go_big_quiet_op; apply Exists.intro; refine ⟨?_, ?_⟩; (fail); go_big_quiet_on))
                refine wpQuiet_nil ?_
                go_wp2
                go_roundw
                case rel => exact ⟨1, by omega, rfl, HO2.out, HKD.out, HXD.out⟩
                case measure => simp [intOf]
              · have hix := fun (W : World) => ix3_1 (a : Int) b a c b c W
                obtain ⟨wd, hwd⟩ : ∃ W, W = (wr.alloc (.cells #[.int .i64 (a : Int), .int .i64 (c : Int)] 92)).drew := ⟨_, rfl⟩
                have xd : Ext wr wd := by rw [hwd]; exact ((Ext.refl wr).alloc _).drew
                have bb : Blk wd wr.heap.size 92 [.int .i64 (a : Int), .int .i64 (c : Int)] := by rw [hwd]; exact (Blk.new wr 92 #[.int .i64 (a : Int), .int .i64 (c : Int)]).ext (Ext.refl _).drew
                have z0 : wd.cell? ⟨wr.heap.size, 0, none⟩ = some (.int .i64 (a : Int)) := bb.cells.1 0
                have z1 : wd.cell? ⟨wr.heap.size, 1, none⟩ = some (.int .i64 (c : Int)) := bb.cells.1 1
                have HW := hid hwd
                clear bb hwd
                obtain ⟨ob, oo, oc, v0, v1, v2, v3, v4⟩ := (hO.ext xd).tab HF1.out.1 (aU_sq HSQ.out W ha hb hc 1) ha hc
                have hKd := hK.ext xd
                have t3 : wd.cell? ⟨g6, 3, none⟩ = some (.int .i64 W) := hKd.cell HG6N.out HT3.out
                have hev : ent (aU U W a b c 1) a c = usedT out a c := (aU_at HSQ.out W hab hbc hc).2.1.trans (HUE.out a c ha hc)
                have hub := HFIT.out a c hac hc
                have hx1 := (ab_bd HM.out ha hc).2
                have hO2 := v4 (ent (aU U W a b c 1) a c + W) (by rw [hev]; unfold I64; have := HWB2.out; omega)
                have HO2 := hid (show OwnSl (slO intO) _ _ (aU U W a b c 2) F1 from hO2)
                rw [hev] at v1 HO2
                have hobw : w.heap.size ≤ ob := HF1.out.2 ob v3
                have HXD := hid ((hx.trans xd).setCell (p := ⟨ob, oo + c, none⟩) hobw (.int .i64 (usedT out a c + W)))
                have HKD := hid (hKd.set (i := oo + c) v3 (.int .i64 (usedT out a c + W)))
                obtain ⟨Y, hY⟩ : ∃ Y, Y = usedT out a c := ⟨_, rfl⟩
                rw [← hY] at v1 hub HO2 HXD HKD
                have hWb2 := HWB2.out
                clear xd hY hK hKd hO hO2 hev hx v3 v4 hobw
                go_wp2_with fail
                refine wp_region_tail 13 HW.out (by kernel_rfl) (by kernel_rfl) ?_
                simp only [List.take_succ_cons, List.take_zero, List.drop_succ_cons, List.drop_zero]
                repeat (first | go_big_quiet_step ((fail)) | (go_big_quiet_want; go_big_quiet_op; apply Exists.intro; refine ⟨?_, ?_⟩; (fail); go_big_quiet_on))
                refine wpQuiet_nil ?_
                go_wp2
                go_roundw
                case rel => exact ⟨2, by omega, rfl, HO2.out, HKD.out, HXD.out⟩
                case measure => simp [intOf]
              · have hix := fun (W : World) => ix3_2 (a : Int) b a c b c W
                obtain ⟨wd, hwd⟩ : ∃ W, W = (wr.alloc (.cells #[.int .i64 (b : Int), .int .i64 (c : Int)] 92)).drew := ⟨_, rfl⟩
                have xd : Ext wr wd := by rw [hwd]; exact ((Ext.refl wr).alloc _).drew
                have bb : Blk wd wr.heap.size 92 [.int .i64 (b : Int), .int .i64 (c : Int)] := by rw [hwd]; exact (Blk.new wr 92 #[.int .i64 (b : Int), .int .i64 (c : Int)]).ext (Ext.refl _).drew
                have z0 : wd.cell? ⟨wr.heap.size, 0, none⟩ = some (.int .i64 (b : Int)) := bb.cells.1 0
                have z1 : wd.cell? ⟨wr.heap.size, 1, none⟩ = some (.int .i64 (c : Int)) := bb.cells.1 1
                have HW := hid hwd
                clear bb hwd
                obtain ⟨ob, oo, oc, v0, v1, v2, v3, v4⟩ := (hO.ext xd).tab HF1.out.1 (aU_sq HSQ.out W ha hb hc 2) hb hc
                have hKd := hK.ext xd
                have t3 : wd.cell? ⟨g6, 3, none⟩ = some (.int .i64 W) := hKd.cell HG6N.out HT3.out
                have hev : ent (aU U W a b c 2) b c = usedT out b c := (aU_at HSQ.out W hab hbc hc).2.2.trans (HUE.out b c hb hc)
                have hub := HFIT.out b c hbc hc
                have hx1 := (ab_bd HM.out hb hc).2
                have hO2 := v4 (ent (aU U W a b c 2) b c + W) (by rw [hev]; unfold I64; have := HWB2.out; omega)
                have HO2 := hid (show OwnSl (slO intO) _ _ (aU U W a b c 3) F1 from hO2)
                rw [hev] at v1 HO2
                have hobw : w.heap.size ≤ ob := HF1.out.2 ob v3
                have HXD := hid ((hx.trans xd).setCell (p := ⟨ob, oo + c, none⟩) hobw (.int .i64 (usedT out b c + W)))
                have HKD := hid (hKd.set (i := oo + c) v3 (.int .i64 (usedT out b c + W)))
                obtain ⟨Y, hY⟩ : ∃ Y, Y = usedT out b c := ⟨_, rfl⟩
                rw [← hY] at v1 hub HO2 HXD HKD
                have hWb2 := HWB2.out
                clear xd hY hK hKd hO hO2 hev hx v3 v4 hobw
                go_wp2_with fail
                refine wp_region_tail 13 HW.out (by kernel_rfl) (by kernel_rfl) ?_
                simp only [List.take_succ_cons, List.take_zero, List.drop_succ_cons, List.drop_zero]
                repeat (first | go_big_quiet_step ((fail)) | (go_big_quiet_want; go_big_quiet_op; apply Exists.intro; refine ⟨?_, ?_⟩; (fail); go_big_quiet_on))
                refine wpQuiet_nil ?_
                go_wp2
                go_roundw
                case rel => exact ⟨3, by omega, rfl, HO2.out, HKD.out, HXD.out⟩
                case measure => simp [intOf]
              · obtain ⟨s0, s1, s2, s3⟩ := HB6P.out.c4.1
                have d0 := hK.cell HG6N.out s0
                have d1 := hK.cell HG6N.out s1
                have d2 := hK.cell HG6N.out s2
                have d3 := hK.cell HG6N.out s3
                have hOWN : ∀ b, (HBP.out.lt.2 b · |>.2) = (HBP.out.lt.2 b · |>.2) := fun _ => rfl
                have HB9 := hid (HBP.out.stayF (w2 := wr) fun b hb => hK.2 b (HBP.out.lt.2 b hb).1 fun hm => by have := (HDJ.out b hm).1; have := (HBP.out.lt.2 b hb).2; omega)
                have HK9 := hid (HKP.out.via hK fun b _ hm => hm)
                have HFIN := hid (aU_fin HSQ.out (W := W) hab hbc hc (t := ⟨a, b, c, W⟩) rfl rfl rfl rfl HUE.out)
                have HSQ3 := hid (aU_sq HSQ.out W ha hb hc 3)
                have HO9 := hid hO
                have HLN := hid (show out.length + 1 ≤ 1099511627776 from by have := HPL.out; have := HBL.out; omega)
                have HI := hid (show I64 (a : Int) ∧ I64 (b : Int) ∧ I64 (c : Int) ∧ I64 W from by have := HN.out; have := HWB2.out; unfold I64; omega)
                have hbs := HK9.out.1
                clear hO hK s0 s1 s2 s3 hOWN
                go_wp2_with (at_builtin; refine wpList_app1h (R := triangleO) elemTri (by decide) rfl _ _ rfl HB9.out rfl _ 1 rfl (by simp) (one_tri _ _ _ _) (y := ⟨a, b, c, W⟩) ⟨⟨rfl, ⟨HI.out.1, HI.out.2.1, HI.out.2.2.1, HI.out.2.2.2⟩⟩, rfl⟩ fresh_nil HLN.out (by decide) hbs ?_; intro v9 w9 hB10 hE10 hA10)
                go_roundw
                case rel => exact ⟨k + 1, _, by omega, by go_num, HSQ3.out, by rw [HST.out]; exact HFIN.out, HO9.out.keep fun b hb => hA10.keep b (HO9.out.lt b hb) fun e => by have := (HB9.out.lt.2 b e).2; have := (HDJ.out b hb).1; omega, by rw [HST.out]; exact hB10, ⟨Nat.le_trans hbs hA10.size, fun b hb hn => (hA10.keep b (Nat.lt_of_lt_of_le hb hbs) fun e => by have := (HB9.out.lt.2 b e).2; omega).trans (HK9.out.2 b hb hn)⟩, hE10 w HXB.out.size hx⟩
                case measure => simp [intOf]; omega
    · have hkl : k = BT.length := by omega
      subst hkl
      rw [List.take_length] at hB
      rw [← HG.out] at hB
      obtain ⟨F', q1, q2, q3⟩ := hB.done
      have HQ := hid (And.intro q1 (And.intro q2 q3))
      clear hB hO hSQ hUE q1 q2 q3
      go_wp2
      go_ret
      exact ⟨_, F', rfl, HQ.out.1, ⟨HQ.out.2.1, fun b hb => Nat.le_trans HXB.out.size (HQ.out.2.2 b hb)⟩, hx⟩

end Go.Proofs.YtidchfncfcckiaaGreat

namespace Go.Proofs.YtidchfncfcckiaaGreat
open Go.RowKit

theorem usedT_bd {l : List Triangle} (x y : Int) (h : ∀ t ∈ l, 1 ≤ t.weight ∧ t.weight ≤ 1000) : 0 ≤ usedT l x y ∧ usedT l x y ≤ 1000 * l.length := by
  induction l with
  | nil => simp [usedT]
  | cons t l ih =>
    have h1 := ih fun s hs => h s (List.mem_cons_of_mem _ hs)
    have h2 := h t (List.mem_cons_self ..)
    have e : usedT (t :: l) x y = (if onT t x y = true then t.weight else 0) + usedT l x y := by unfold usedT; rw [List.map_cons, List.sum_cons]
    rw [e, List.length_cons]
    split <;> omega

set_option maxHeartbeats 4000000 in
set_option maxRecDepth 20000 in
theorem spec_l21Used (v : Value) (l : List Triangle) (x y : Int) (w : World) (h : Sl triangleR w v l) (hw : ∀ t ∈ l, 1 ≤ t.weight ∧ t.weight ≤ 1000) (hl : l.length ≤ 1048576) :
    Calls Tryz.prog 106 #[v, .int .i64 x, .int .i64 y] w fun e w2 => e = .returned (.int .i64 (usedT l x y)) ∧ Ext w w2 := by
  obtain ⟨A, cap, rfl, hm1⟩ := h.form
  have HW := hid hw
  clear hw
  go_enter Tryz.func106, Tryz.ntmps106
  go_wp2_with fail
  go_loopw [7, 8] (fun n i wr => ∃ k : Nat, k ≤ l.length ∧ i = .int .i64 k ∧ n = .int .i64 (usedT (l.take k) x y) ∧ Ext w wr) (fun _ i _ => l.length - (intOf i).toNat)
  case atStart => exact ⟨0, Nat.zero_le _, rfl, rfl, Ext.refl _⟩
  case round =>
    obtain ⟨k, hk, rfl, rfl, hx⟩ := hrel
    by_cases hlt : k < l.length
    · obtain ⟨bT, oT, eT, i0, t0, t1, t2, t3⟩ := (h.mono hx).triangle hlt
      subst eT
      have HST := hid (show usedT (l.take (k + 1)) x y = usedT (l.take k) x y + if onT l[k] x y = true then l[k].weight else 0 from by rw [List.take_succ_eq_append_getElem hlt, usedT_snoc])
      have hwk := HW.out l[k] (List.getElem_mem hlt)
      have hub := usedT_bd (l := l.take k) x y fun t ht => HW.out t (List.mem_of_mem_take ht)
      rw [List.length_take] at hub
      obtain ⟨n, hn⟩ : ∃ n, n = usedT (l.take k) x y := ⟨_, rfl⟩
      have HN := hid hn
      rw [← hn] at hub ⊢
      obtain ⟨t, ht⟩ : ∃ t, t = l[k] := ⟨_, rfl⟩
      rw [← ht] at t0 t1 t2 t3 HST hwk
      have hon : onT t x y = ((t.a == x && t.b == y) || ((t.a == x && t.c == y) || (t.b == x && t.c == y))) := rfl
      obtain ⟨wt, hwt⟩ : ∃ wt, wt = t.weight := ⟨_, rfl⟩
      rw [← hwt] at t3 HST hwk
      have HX := hid (hx.alloc (.cells #[.int .i64 t.a, .int .i64 t.b, .int .i64 t.c, .int .i64 wt] 91))
      obtain ⟨q1, e1⟩ : ∃ q, (t.a == x) = q := ⟨_, rfl⟩
      obtain ⟨q2, e2⟩ : ∃ q, (t.b == y) = q := ⟨_, rfl⟩
      obtain ⟨q3, e3⟩ : ∃ q, (t.c == y) = q := ⟨_, rfl⟩
      obtain ⟨q4, e4⟩ : ∃ q, (t.b == x) = q := ⟨_, rfl⟩
      rw [e1, e2, e3, e4] at hon
      have hkl : ((min k l.length : Nat) : Int) ≤ 1048576 := by omega
      have hub2 : n ≤ 1048576000 := by omega
      clear hn ht hwt i0 hx hkl
      cases h1 : q1
      · try rw [h1] at hon
        subst h1
        cases h4 : q4
        · try rw [h4] at hon
          subst h4
          rw [show onT t x y = false from by rw [hon]; first | rfl | simp] at HST
          have HO := hid (show usedT (l.take (k + 1)) x y = usedT (l.take k) x y from by rw [HST.out, if_neg (by decide), Int.add_zero])
          rw [← HN.out] at HO
          clear hon
          go_wp2
          go_roundw
          case rel => exact ⟨k + 1, by omega, by go_num, by rw [HO.out], (HX.out)⟩
          case measure => simp [intOf]; omega
        · try rw [h4] at hon
          subst h4
          cases h3 : q3
          · try rw [h3] at hon
            subst h3
            rw [show onT t x y = false from by rw [hon]; first | rfl | simp] at HST
            have HO := hid (show usedT (l.take (k + 1)) x y = usedT (l.take k) x y from by rw [HST.out, if_neg (by decide), Int.add_zero])
            rw [← HN.out] at HO
            clear hon
            go_wp2
            go_roundw
            case rel => exact ⟨k + 1, by omega, by go_num, by rw [HO.out], (HX.out)⟩
            case measure => simp [intOf]; omega
          · try rw [h3] at hon
            subst h3
            rw [show onT t x y = true from by rw [hon]; first | rfl | simp] at HST
            have HO := hid (show usedT (l.take (k + 1)) x y = usedT (l.take k) x y + wt from by rw [HST.out, if_pos rfl])
            rw [← HN.out] at HO
            clear hon
            go_wp2
            go_roundw
            case rel => exact ⟨k + 1, by omega, by go_num, by rw [HO.out], (HX.out)⟩
            case measure => simp [intOf]; omega
      · try rw [h1] at hon
        subst h1
        cases h2 : q2
        · try rw [h2] at hon
          subst h2
          cases h3 : q3
          · try rw [h3] at hon
            subst h3
            cases h4 : q4
            · try rw [h4] at hon
              subst h4
              rw [show onT t x y = false from by rw [hon]; first | rfl | simp] at HST
              have HO := hid (show usedT (l.take (k + 1)) x y = usedT (l.take k) x y from by rw [HST.out, if_neg (by decide), Int.add_zero])
              rw [← HN.out] at HO
              clear hon
              go_wp2
              go_roundw
              case rel => exact ⟨k + 1, by omega, by go_num, by rw [HO.out], (HX.out)⟩
              case measure => simp [intOf]; omega
            · try rw [h4] at hon
              subst h4
              rw [show onT t x y = false from by rw [hon]; first | rfl | simp] at HST
              have HO := hid (show usedT (l.take (k + 1)) x y = usedT (l.take k) x y from by rw [HST.out, if_neg (by decide), Int.add_zero])
              rw [← HN.out] at HO
              clear hon
              go_wp2
              go_roundw
              case rel => exact ⟨k + 1, by omega, by go_num, by rw [HO.out], (HX.out)⟩
              case measure => simp [intOf]; omega
          · try rw [h3] at hon
            subst h3
            rw [show onT t x y = true from by rw [hon]; first | rfl | simp] at HST
            have HO := hid (show usedT (l.take (k + 1)) x y = usedT (l.take k) x y + wt from by rw [HST.out, if_pos rfl])
            rw [← HN.out] at HO
            clear hon
            go_wp2
            go_roundw
            case rel => exact ⟨k + 1, by omega, by go_num, by rw [HO.out], (HX.out)⟩
            case measure => simp [intOf]; omega
        · try rw [h2] at hon
          subst h2
          rw [show onT t x y = true from by rw [hon]; first | rfl | simp] at HST
          have HO := hid (show usedT (l.take (k + 1)) x y = usedT (l.take k) x y + wt from by rw [HST.out, if_pos rfl])
          rw [← HN.out] at HO
          clear hon
          go_wp2
          go_roundw
          case rel => exact ⟨k + 1, by omega, by go_num, by rw [HO.out], (HX.out)⟩
          case measure => simp [intOf]; omega
    · have hke : k = l.length := by omega
      subst hke
      have HE := hid (show usedT (l.take l.length) x y = usedT l x y from by rw [List.take_length])
      go_wp2
      go_ret
      exact ⟨ret_int (by rw [← HE.out]), hx⟩
end Go.Proofs.YtidchfncfcckiaaGreat

namespace Go.Proofs.YtidchfncfcckiaaGreat
open Go.RowKit

set_option maxHeartbeats 4000000 in
set_option maxRecDepth 20000 in
theorem spec_BadTriangles (v : Value) (m : List (List Int)) (w : World) (h : Sl (slR intR) w v m) (hm : WM m) :
    Calls Tryz.prog 104 #[v] w fun e w2 => ∃ v2 F, e = .returned v2 ∧ OwnSl triangleO w2 v2 (badL m) F ∧ NewF w F ∧ Ext w w2 := by
  have HBAD := hid (fun (a b c : Nat) (W : World) (y : Ext w W) (hab : a < b) (hbc : b < c) (hc : c < m.length) => spec_IsBadTriangle v m a b c W (h.mono y) hm hab hbc hc)
  obtain ⟨A, cap, rfl, hm1⟩ := h.form
  have h8 := hm.n8
  have HM := hid hm
  have HT := hid (fun (p q : Nat) (hp : p < m.length) (hq : q < m.length) => mat_cells h hm hp hq)
  clear hm h
  go_enter Tryz.func104, Tryz.ntmps104
  go_wp2_with fail
  go_loopw [3, 4] (fun t i wr => ∃ a : Nat, a ≤ m.length ∧ i = .int .i64 a ∧ Bld triangleO wr w.heap.size 91 t (tA m a) [] ∧ Ext w wr) (fun _ i _ => m.length - (intOf i).toNat)
  case atStart => exact ⟨0, Nat.zero_le _, rfl, Bld.lit w (Nat.le_refl _) _, (Ext.refl _).alloc _⟩
  case round =>
    obtain ⟨a, ha, rfl, hB, hx⟩ := hrel
    by_cases hlt : a < m.length
    · have HB := hid hB
      have HX := hid hx
      clear hB hx
      go_wp2_with fail
      go_loopw [3, 5] (fun t i wr => ∃ b : Nat, a + 1 ≤ b ∧ b ≤ m.length ∧ i = .int .i64 b ∧ Bld triangleO wr w.heap.size 91 t (tA m a ++ tB m a b) [] ∧ Ext w wr) (fun _ i _ => m.length - (intOf i).toNat)
      case atStart => exact ⟨a + 1, Nat.le_refl _, hlt, by go_num, by rw [tB_le m a _ (Nat.le_refl _), List.append_nil]; exact HB.out, HX.out⟩
      case round =>
        clear HB HX
        obtain ⟨b, hab, hb, rfl, hB, hx⟩ := hrel
        by_cases hbl : b < m.length
        · have HB := hid hB
          have HX := hid hx
          clear hB hx
          go_wp2_with fail
          go_loopw [3, 6] (fun t i wr => ∃ c : Nat, b + 1 ≤ c ∧ c ≤ m.length ∧ i = .int .i64 c ∧ Bld triangleO wr w.heap.size 91 t (tA m a ++ tB m a b ++ tC m a b c) [] ∧ Ext w wr) (fun _ i _ => m.length - (intOf i).toNat)
          case atStart => exact ⟨b + 1, Nat.le_refl _, hbl, by go_num, by rw [tC_le m a b _ (Nat.le_refl _), List.append_nil]; exact HB.out, HX.out⟩
          case round =>
            clear HB HX
            obtain ⟨c, hbc, hc, rfl, hB, hx⟩ := hrel
            by_cases hcl : c < m.length
            · have HB := hid hB
              have HX := hid hx
              have HBD := hid (HBAD.out a b c wr hx (by omega) (by omega) hcl)
              have HST := hid (show tC m a b (c + 1) = if b < c ∧ badB m a b c = true then tC m a b c ++ [mkT m a b c] else tC m a b c from rfl)
              obtain ⟨bd, hbd⟩ : ∃ bd, bd = badB m a b c := ⟨_, rfl⟩
              rw [← hbd] at HBD HST
              clear hbd hB hx
              cases bd with
              | false =>
                have HE := hid (show tC m a b (c + 1) = tC m a b c from by rw [HST.out, if_neg fun h => by cases h.2])
                go_wp2_with fail
                refine (HBD.out).mono ?_
                rintro e w7 ⟨rfl, x7⟩
                go_wp2
                go_roundw
                case rel => exact ⟨c + 1, by omega, by omega, by go_num, by rw [HE.out]; exact HB.out.ext x7, HX.out.trans x7⟩
                case measure => simp [intOf]; omega
              | true =>
                have HMK := hid (show mkT m a b c = ⟨a, b, c, min3 (ab (ent m a b)) (ab (ent m a c)) (ab (ent m b c))⟩ from rfl)
                go_wp2_with fail
                refine (HBD.out).mono ?_
                rintro e w7 ⟨rfl, x7⟩
                have xd : Ext w w7 := HX.out.trans x7
                have d1 := HM.out.bd a b hlt hbl
                have d2 := HM.out.bd a c hlt hcl
                have d3 := HM.out.bd b c hbl hcl
                obtain ⟨bm, om, ba, oa, ca, eA, t1⟩ := HT.out a b hlt hbl
                subst eA
                obtain ⟨bm2, om2, ba2, oa2, ca2, eA, t2⟩ := HT.out a c hlt hcl
                injection eA with e9
                injection e9 with e8 e7 q3
                clear q3
                subst e8; subst e7
                obtain ⟨bm3, om3, bb, ob, cb, eA, t3⟩ := HT.out b c hbl hcl
                injection eA with e9
                injection e9 with e8 e7 q3
                clear q3
                subst e8; subst e7
                obtain ⟨k1, k2⟩ := t1 w7 xd
                obtain ⟨k3, k4⟩ := t2 w7 xd
                obtain ⟨k5, k6⟩ := t3 w7 xd
                rw [k1] at k3
                injection k3 with k3
                injection k3 with k3 q1 q2
                injection k3 with k3
                injection k3 with k3 k7 q3
                subst k3; subst k7
                obtain ⟨x, hxe⟩ : ∃ x, x = ent m a b := ⟨_, rfl⟩
                obtain ⟨y, hye⟩ : ∃ x, x = ent m a c := ⟨_, rfl⟩
                obtain ⟨z, hze⟩ : ∃ x, x = ent m b c := ⟨_, rfl⟩
                rw [← hxe] at t1 d1 HMK
                rw [← hye] at t2 d2 HMK
                rw [← hze] at t3 d3 HMK
                have HA1 := hid (fun (W : World) => spec_l21Size x W (by omega))
                have HA2 := hid (fun (W : World) => spec_l21Size y W (by omega))
                have HA3 := hid (fun (W : World) => spec_l21Size z W (by omega))
                obtain ⟨X, hX⟩ : ∃ X, X = ab x := ⟨_, rfl⟩
                obtain ⟨Y, hY⟩ : ∃ X, X = ab y := ⟨_, rfl⟩
                obtain ⟨Z, hZ⟩ : ∃ X, X = ab z := ⟨_, rfl⟩
                rw [← hX] at HA1 HMK
                rw [← hY] at HA2 HMK
                rw [← hZ] at HA3 HMK
                have HXB := hid (show 0 ≤ X ∧ X ≤ 1000 ∧ 0 ≤ Y ∧ Y ≤ 1000 ∧ 0 ≤ Z ∧ Z ≤ 1000 from by rw [hX, hY, hZ]; unfold ab; omega)
                have HB9 := hid (HB.out.ext x7)
                have HXD := hid xd
                have HLN := hid (show (tA m a ++ tB m a b ++ tC m a b c).length + 1 ≤ 1099511627776 from by
                  have k1 := tA_len m a
                  have k2 := tB_len m a b
                  have k3 := tC_len m a b c
                  have k4 := HM.out.n8
                  have k5 := cA_bd m.length a k4 (Nat.le_of_lt hlt)
                  have k6 := cB_bd m.length a b k4 (Nat.le_of_lt hlt) (Nat.le_of_lt hbl)
                  simp only [List.length_append]; omega)
                have HABC := hid (show I64 (a : Int) ∧ I64 (b : Int) ∧ I64 (c : Int) from by have := HM.out.n8; unfold I64; omega)
                have HS := hid (show ∀ W, Ext w W → W.cell? ⟨bm, om + a, none⟩ = some (.slice (some ⟨ba, oa, none⟩) m.length ca) ∧ W.cell? ⟨ba, oa + b, none⟩ = some (.int .i64 x) ∧ W.cell? ⟨ba, oa + c, none⟩ = some (.int .i64 y) ∧ W.cell? ⟨bm, om + b, none⟩ = some (.slice (some ⟨bb, ob, none⟩) m.length cb) ∧ W.cell? ⟨bb, ob + c, none⟩ = some (.int .i64 z) from fun W y => ⟨(t1 W y).1, (t1 W y).2, (t2 W y).2, (t3 W y).1, (t3 W y).2⟩)
                have HVV := hid (show mkT m a b c = ⟨a, b, c, (if Z < (if Y < X then Y else X) then Z else (if Y < X then Y else X))⟩ from by rw [HMK.out]; rfl)
                have HVB := hid (show I64 (if Z < (if Y < X then Y else X) then Z else (if Y < X then Y else X)) from by have := HXB.out; unfold I64; split <;> split <;> omega)
                have HE := hid (show tA m a ++ tB m a b ++ tC m a b (c + 1) = tA m a ++ tB m a b ++ tC m a b c ++ [⟨a, b, c, (if Z < (if Y < X then Y else X) then Z else (if Y < X then Y else X))⟩] from by rw [HST.out, if_pos ⟨by omega, by trivial⟩, HVV.out, List.append_assoc (tA m a ++ tB m a b)])
                clear x7 xd t1 t2 t3 q1 q2 q3 hxe hye hze hX hY hZ d1 d2 d3 k1 k2 k4 k5 k6
                go_wp2_with fail
                go_region_held3 (fun w' => w'.cell? ⟨bm, om + a, none⟩ = some (.slice (some ⟨ba, oa, none⟩) m.length ca) ∧ w'.cell? ⟨ba, oa + b, none⟩ = some (.int .i64 x) ∧ w'.cell? ⟨ba, oa + c, none⟩ = some (.int .i64 y) ∧ w'.cell? ⟨bm, om + b, none⟩ = some (.slice (some ⟨bb, ob, none⟩) m.length cb) ∧ w'.cell? ⟨bb, ob + c, none⟩ = some (.int .i64 z)) (first | (refine HS.out _ ?_; assumption) | exact HS.out _ (HXD.out.trans (by repeat (first | with_reducible exact Ext.refl _ | with_reducible assumption | with_reducible refine Ext.drew ?_ | with_reducible refine Ext.alloc ?_ _ | (refine Ext.setCell ?_ (by simp) _) | with_reducible refine Ext.trans ?_ (by with_reducible assumption))))) (first | (go_at_call 105; first | (with_reducible refine (HA1.out _).mono ?_; rintro e w6 ⟨rfl, rfl⟩) | (with_reducible refine (HA2.out _).mono ?_; rintro e w6 ⟨rfl, rfl⟩) | (with_reducible refine (HA3.out _).mono ?_; rintro e w6 ⟨rfl, rfl⟩)) | (refine step_app1 (R := triangleO) elemTri (by decide) rfl _ _ rfl (HB9.out.ext (by repeat (first | with_reducible exact Ext.refl _ | with_reducible assumption | with_reducible refine Ext.drew ?_ | with_reducible refine Ext.alloc ?_ _ | (refine Ext.setCell ?_ (by simp) _) | with_reducible refine Ext.trans ?_ (by with_reducible assumption)))) rfl w7.heap.size 1 rfl (heap_alloc_new w7.drew _) (one_tri _ _ _ _) (y := ⟨a, b, c, (if Z < (if Y < X then Y else X) then Z else (if Y < X then Y else X))⟩) ⟨⟨rfl, ⟨HABC.out.1, HABC.out.2.1, HABC.out.2.2, HVB.out⟩⟩, rfl⟩ fresh_nil HLN.out (by decide) (by simp; have := HXD.out.size; omega) (w0 := w) (Nat.le_refl _) (HXD.out.trans (by repeat (first | with_reducible exact Ext.refl _ | with_reducible assumption | with_reducible refine Ext.drew ?_ | with_reducible refine Ext.alloc ?_ _ | (refine Ext.setCell ?_ (by simp) _) | with_reducible refine Ext.trans ?_ (by with_reducible assumption)))) ?_; intro v9 w9 hB10 hE10))
                go_wp2
                go_roundw
                case rel => exact ⟨c + 1, by omega, by omega, by go_num, by rw [HE.out]; exact hB10, hE10⟩
                case measure => simp [intOf]; omega
            · have hcm : c = m.length := by omega
              subst hcm
              have HB9 := hid (show Bld triangleO wr w.heap.size 91 _ (tA m a ++ tB m a (b + 1)) [] from by rw [show tB m a (b + 1) = tB m a b ++ tC m a b m.length from by rw [tB, if_pos (by omega)], ← List.append_assoc]; exact hB)
              clear hB
              go_wp2
              go_roundw
              case rel => exact ⟨b + 1, by omega, by omega, by go_num, HB9.out, hx⟩
              case measure => simp [intOf]; omega
        · have hbm : b = m.length := by omega
          subst hbm
          have HB9 := hid (show Bld triangleO wr w.heap.size 91 _ (tA m (a + 1)) [] from hB)
          clear hB
          go_wp2
          go_roundw
          case rel => exact ⟨a + 1, by omega, by go_num, HB9.out, hx⟩
          case measure => simp [intOf]; omega
    · have ham : a = m.length := by omega
      subst ham
      obtain ⟨F', q1, q2, q3⟩ := hB.done
      clear hB
      go_wp2
      go_ret
      exact ⟨_, F', rfl, q1, ⟨q2, q3⟩, hx⟩
end Go.Proofs.YtidchfncfcckiaaGreat
