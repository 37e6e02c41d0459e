/-
  WALK: CarryIdentities (the reference's).
-/
import Derived.Test.YtfcbapaojoecgabMgEndFnId20
import Derived.Test.YtfcbapaojoecgabMgEndFnId8
import Derived.Test.YtfcbapaojoecgabMgEndFnId6

namespace Go.Proofs.Ytfcbapaojoecgab
open Go.RowKit

theorem ents_ids {xs : List Entity} (h : areEnts xs = true) : xs.length ≤ 8 ∧ ∀ e ∈ xs, 1 ≤ e.id ∧ e.id ≤ 9999 := by
  refine ⟨(ents_small h).2, fun e he => ?_⟩
  obtain ⟨j, hj, rfl⟩ := List.mem_iff_getElem.1 he
  unfold areEnts at h
  rw [Bool.and_eq_true] at h
  have h9 := List.all_eq_true.1 h.1 j (List.mem_range.2 hj)
  unfold entAt at h9
  rw [idsOf_at hj, Bool.and_eq_true] at h9
  exact of_decide_eq_true h9.1
set_option maxHeartbeats 2000000 in
set_option maxRecDepth 20000 in
theorem spec_CarryIdentities (v u : Value) (old : List Entity) (g : List (List Int)) (n : Int) (w : World) (h : Sl entityR w v old) (h2 : Sl (slR intR) w u g) (hb : msEnts old ≤ 1048576) (hb2 : sumLen g ≤ 1048576) :
    Calls Try.prog 8 #[v, u, .int .i64 n] w fun e w2 => ∃ v2, e = .returned (.tuple #[v2, .int .i64 (carry old g n).2.1, .bool (carry old g n).2.2]) ∧ Sl entityR w2 v2 (carry old g n).1 ∧ Ext w w2 := by
  obtain ⟨A, cap, rfl, hm⟩ := h.form
  obtain ⟨B, cap2, rfl, hm2⟩ := h2.form
  go_enter Try.func8, Try.ntmps8
  go_wp2_with fail
  refine (spec_AreEntities _ old _ h hb).mono ?_
  rintro e w1 ⟨rfl, x1⟩
  cases he : areEnts old with
  | false =>
    have HC := hid (carry_no (n := n) (show okC old g n = false by unfold okC; rw [he]; rfl))
    go_wp2_with fail
    refine bodyPost_ret (v := .tuple #[.slice (some ⟨w1.heap.size, 0, none⟩) 0 0, .int .i64 0, .bool false]) (by simp [results, Try.results8, go_sem]) rfl ?_
    rw [HC.out]
    exact ⟨_, rfl, (Bld.lit (R := entityO) w1 (Nat.le_refl _) 42).sl, (x1).alloc _⟩
  | true =>
    go_wp2_with fail
    refine (spec_AreGroups _ g _ (h2.mono x1) (by omega)).mono ?_
    rintro e w2 ⟨rfl, x2⟩
    cases hg : areGroups g with
    | false =>
      have HC := hid (carry_no (n := n) (show okC old g n = false by unfold okC; rw [he, hg]; rfl))
      go_wp2_with fail
      refine bodyPost_ret (v := .tuple #[.slice (some ⟨w2.heap.size, 0, none⟩) 0 0, .int .i64 0, .bool false]) (by simp [results, Try.results8, go_sem]) rfl ?_
      rw [HC.out]
      exact ⟨_, rfl, (Bld.lit (R := entityO) w2 (Nat.le_refl _) 42).sl, (x1.trans x2).alloc _⟩
    | true =>
      go_wp2_with fail
      refine (spec_l1In _ _ _ _).mono ?_
      rintro e w2' ⟨rfl, rfl⟩
      cases hi : inB n 1 9991 with
      | false =>
        have HC := hid (carry_no (n := n) (show okC old g n = false by unfold okC; rw [he, hg, hi]; rfl))
        go_wp2_with fail
        refine bodyPost_ret (v := .tuple #[.slice (some ⟨w2.heap.size, 0, none⟩) 0 0, .int .i64 0, .bool false]) (by simp [results, Try.results8, go_sem]) rfl ?_
        rw [HC.out]
        exact ⟨_, rfl, (Bld.lit (R := entityO) w2 (Nat.le_refl _) 42).sl, (x1.trans x2).alloc _⟩
      | true =>
        have hn : 1 ≤ n ∧ n ≤ 9991 := of_decide_eq_true hi
        obtain ⟨hol8, hob0⟩ := ents_ids he
        have hol4 := (ents_small he).1
        obtain ⟨hgl8, hgl⟩ := gsC_small hg
        have hgl2 := groups_small hg
        by_cases h0 : 0 < old.length
        · have hlt0 : old.length - 1 < old.length := by omega
          obtain ⟨b, off, A2, c2, eO, _, _, d0, _⟩ := (h.mono (x1.trans x2)).ent hlt0
          subst eO
          have hsub : ((old.length - 1 : Nat) : Int) = (old.length : Int) - 1 := by omega
          have HL := hid (show lastId old = old[old.length - 1].id from by unfold lastId; rw [getD_at hlt0])
          by_cases hge : n ≤ old[old.length - 1].id
          · have HC := hid (carry_no (n := n) (show okC old g n = false by unfold okC; rw [he, hg, hi, decide_eq_true h0, HL.out, decide_eq_true hge]; rfl))
            have e0 : decide (n ≤ old[old.length - 1].id) = true := by simp only [decide_eq_true_eq]; exact hge
            go_wp2_with fail
            refine bodyPost_ret (v := .tuple #[.slice (some ⟨w2.heap.size, 0, none⟩) 0 0, .int .i64 0, .bool false]) (by simp [results, Try.results8, go_sem]) rfl ?_
            rw [HC.out]
            exact ⟨_, rfl, (Bld.lit (R := entityO) w2 (Nat.le_refl _) 42).sl, (x1.trans x2).alloc _⟩
          · have HC := hid (show okC old g n = true by unfold okC; rw [he, hg, hi, decide_eq_true h0, HL.out, decide_eq_false hge]; rfl)
            have e0 : decide (n ≤ old[old.length - 1].id) = false := by simp only [decide_eq_false_iff_not]; exact hge
            have HE := hid he
            have HGR := hid hg
            obtain ⟨gs, hgs⟩ : ∃ gs, gs = sortK hdI g := ⟨_, rfl⟩
            have hob := hob0
            have hg8 := hgl2.2.1
            have hgs8 : gs.length ≤ 8 := by rw [hgs]; exact hgl8
            have hgl : ∀ x ∈ g, 0 < x.length ∧ x.length ≤ 8 := hgl2.2.2
            have hbo : old.length ≤ 8 := hol8
            clear hol8 hob0 he hg hi hgl2 hgl8
            go_wp2_with fail
            refine (spec_l26Order _ g _ (h2.mono (x1.trans x2)) (by omega) (fun x hx => by have := hgl x hx; omega)).mono ?_
            rintro e w3 ⟨v3, rfl, hG, x3⟩
            obtain ⟨Ag, cg, rfl, _⟩ := hG.form
            rw [← hgs] at hG ⊢
            have HGS := hid hgs
            clear hgs
            have xw3 := (x1.trans x2).trans x3
            clear x1 x2 x3
            go_wp2_with fail
            refine (spec_l26Groups _ old _ (h.mono xw3) (by omega) (by omega)).mono ?_
            rintro e w4 ⟨v4, rfl, hM, x4⟩
            go_wp2_with fail
            refine (spec_OverlapMatrix _ _ (mems old) gs _ hM (hG.mono x4)).mono ?_
            rintro e w5 ⟨v5, F5, rfl, o5, _, x5⟩
            go_wp2_with fail
            refine (spec_BestAssignment _ (ovMat (mems old) gs) _ o5.sl).mono ?_
            rintro e w6 ⟨v6, F6, rfl, o6, _, x6⟩
            obtain ⟨a, ha⟩ : ∃ a, a = bestAsg (ovMat (mems old) gs) := ⟨_, rfl⟩
            have hal : a.length = old.length := by rw [ha, HGS.out]; exact asC_len HE.out HGR.out
            have HA := hid (show asC old g = a from by rw [ha, HGS.out]; rfl)
            have hsA := o6.sl
            have hsG := (hG.mono x4).mono (x5.trans x6)
            have xw6 := (xw3.trans x4).trans (x5.trans x6)
            rw [← ha] at hsA
            clear o5 o6 hM hG x4 x5 x6 xw3 ha
            obtain ⟨Aa, ca, ea, _⟩ := hsA.form
            subst ea
            go_wp2_with fail
            go_loopw [2, 11, 12] (fun nx t i wr => ∃ k : Nat, k ≤ gs.length ∧ i = .int .i64 k ∧ nx = .int .i64 (outC old a gs n k).2 ∧ Sl entityR wr t (sortF (outC old a gs n k).1) ∧ Ext w6 wr) (fun _ _ i _ => gs.length - (intOf i).toNat)
            case atStart => exact ⟨0, Nat.zero_le _, rfl, rfl, (Bld.lit (R := entityO) w6 (Nat.le_refl _) 42).sl, (Ext.refl _).alloc _⟩
            case round =>
              obtain ⟨k, hk, rfl, rfl, hO, hx⟩ := hrel
              obtain ⟨hol, hon, hon2⟩ := outC_len old a gs n k
              by_cases hlt : k < gs.length
              · obtain ⟨bg, og, A9, c9, eG, hrow, cG⟩ := (hsG.mono hx).sl hlt
                subst eG
                obtain ⟨w0, hw0⟩ : ∃ w0, w0 = wr := ⟨_, rfl⟩
                rw [← hw0] at hO hx hrow cG ⊢
                clear hw0
                have HO := hid hO
                have HRW := hid hrow
                have hnx : (0 : Int) ≤ (outC old a gs n k).2 ∧ (outC old a gs n k).2 ≤ 9999 := by omega
                have HST := hid (show outC old a gs n (k + 1) = stepC old a gs (outC old a gs n k) k from rfl)
                obtain ⟨oc, hoc⟩ : ∃ oc, oc = (outC old a gs n k) := ⟨_, rfl⟩
                have HOC := hid hoc
                rw [← hoc] at hnx hol HO HST ⊢
                clear hO hrow hon hon2 hoc
                clear h0
                go_wp2_with fail
                go_loop [13, 14] (fun d i => ∃ j : Nat, j ≤ a.length ∧ i = .int .i64 j ∧ d = .int .i64 (idTo old a k j)) (fun _ i => a.length - (intOf i).toNat)
                case atStart => exact ⟨0, Nat.zero_le _, rfl, rfl⟩
                case round =>
                  obtain ⟨j, hj, rfl, rfl⟩ := hrel
                  by_cases hja : j < a.length
                  · obtain ⟨ba, oa, eA, hI, c1⟩ := (hsA.mono hx).int hja
                    subst eA
                    have hjo : j < old.length := by omega
                    obtain ⟨bo, oo, A2, c2, eO, _, _, d0, _⟩ := (h.mono (xw6.trans hx)).ent hjo
                    cases eO
                    have HS := hid (show idTo old a k (j + 1) = if a[j] = (k : Int) then old[j].id else idTo old a k j from by
                      show (if a.getD j (-1) = (k : Int) then (old.getD j ⟨0, []⟩).id else idTo old a k j) = _
                      rw [getD_at hja, getD_at hjo])
                    by_cases hq : a[j] = (k : Int)
                    · have e1 : (a[j] == (k : Int)) = true := by simp [hq]
                      have HT := hid (show idTo old a k (j + 1) = old[j].id from by rw [HS.out, if_pos hq])
                      clear hq
                      go_wp2
                      go_round
                      case rel => exact ⟨j + 1, by omega, by go_num, by rw [HT.out]⟩
                      case measure => simp [intOf]; omega
                    · have e1 : (a[j] == (k : Int)) = false := by simp [hq]
                      have HT := hid (show idTo old a k (j + 1) = idTo old a k j from by rw [HS.out, if_neg hq])
                      clear hq
                      go_wp2
                      go_round
                      case rel => exact ⟨j + 1, by omega, by go_num, by rw [HT.out]⟩
                      case measure => simp [intOf]; omega
                  · have hje : j = a.length := by omega
                    subst hje
                    have HPUT := hid (fun (id : Int) (hi : I64 id) => spec_l26Put _ (.agg #[.int .i64 id, .slice A9 gs[k].length c9]) _ ⟨id, gs[k]⟩ w0 HO.out ⟨_, rfl, hi, HRW.out⟩ (by rw [(sortF_perm _).length_eq]; omega))
                    have hid2 := idTo_bd (by omega : (0 : Int) ≤ 0 ∧ (0 : Int) ≤ 9999) (fun e he => by have := hob e he; omega) a k a.length
                    have HGK := hid (getD_at (d := []) hlt)
                    obtain ⟨d, hd⟩ : ∃ d, d = idTo old a k a.length := ⟨_, rfl⟩
                    rw [← hd] at hid2 ⊢
                    by_cases hz : d = 0
                    · have HT := hid (show stepC old a gs oc k = (oc.1 ++ [⟨oc.2, gs[k]⟩], oc.2 + 1) from by unfold stepC; rw [← hd, if_pos hz, HGK.out])
                      have e1 : (d == 0) = true := by simp [hz]
                      clear hd hz
                      go_wp2_with fail
                      refine (HPUT.out oc.2 (by unfold I64; omega)).mono ?_
                      rintro e w7 ⟨v7, rfl, h7, x7⟩
                      go_wp2
                      go_roundw
                      case rel => exact ⟨k + 1, by omega, by go_num, by rw [HST.out, HT.out], by rw [HST.out, HT.out, sortF_snoc]; exact h7, hx.trans x7⟩
                      case measure => simp [intOf]; omega
                    · have HT := hid (show stepC old a gs oc k = (oc.1 ++ [⟨d, gs[k]⟩], oc.2) from by unfold stepC; rw [← hd, if_neg hz, HGK.out])
                      have e1 : (d == 0) = false := by simp [hz]
                      clear hd hz
                      go_wp2_with fail
                      refine (HPUT.out d (by unfold I64; omega)).mono ?_
                      rintro e w7 ⟨v7, rfl, h7, x7⟩
                      go_wp2
                      go_roundw
                      case rel => exact ⟨k + 1, by omega, by go_num, by rw [HST.out, HT.out], by rw [HST.out, HT.out, sortF_snoc]; exact h7, hx.trans x7⟩
                      case measure => simp [intOf]; omega
              · have hke : k = gs.length := by omega
                subst hke
                have HFIN := hid hO
                have HY := hid (carry_yes HC.out)
                clear hO hon hon2 hol
                go_wp2
                refine bodyPost_ret (v := .tuple #[u11, .int .i64 (outC old a gs n gs.length).2, .bool true]) (by simp [results, Try.results8, go_sem]) rfl ?_
                rw [HY.out, HA.out, show gsC g = gs from HGS.out.symm]
                exact ⟨_, rfl, HFIN.out, xw6.trans hx⟩
        · have HC := hid (show okC old g n = true by unfold okC; rw [he, hg, hi, decide_eq_false h0]; rfl)
          have HE := hid he
          have HGR := hid hg
          obtain ⟨gs, hgs⟩ : ∃ gs, gs = sortK hdI g := ⟨_, rfl⟩
          have hob := hob0
          have hg8 := hgl2.2.1
          have hgs8 : gs.length ≤ 8 := by rw [hgs]; exact hgl8
          have hgl : ∀ x ∈ g, 0 < x.length ∧ x.length ≤ 8 := hgl2.2.2
          have hbo : old.length ≤ 8 := hol8
          clear hol8 hob0 he hg hi hgl2 hgl8
          go_wp2_with fail
          refine (spec_l26Order _ g _ (h2.mono (x1.trans x2)) (by omega) (fun x hx => by have := hgl x hx; omega)).mono ?_
          rintro e w3 ⟨v3, rfl, hG, x3⟩
          obtain ⟨Ag, cg, rfl, _⟩ := hG.form
          rw [← hgs] at hG ⊢
          have HGS := hid hgs
          clear hgs
          have xw3 := (x1.trans x2).trans x3
          clear x1 x2 x3
          go_wp2_with fail
          refine (spec_l26Groups _ old _ (h.mono xw3) (by omega) (by omega)).mono ?_
          rintro e w4 ⟨v4, rfl, hM, x4⟩
          go_wp2_with fail
          refine (spec_OverlapMatrix _ _ (mems old) gs _ hM (hG.mono x4)).mono ?_
          rintro e w5 ⟨v5, F5, rfl, o5, _, x5⟩
          go_wp2_with fail
          refine (spec_BestAssignment _ (ovMat (mems old) gs) _ o5.sl).mono ?_
          rintro e w6 ⟨v6, F6, rfl, o6, _, x6⟩
          obtain ⟨a, ha⟩ : ∃ a, a = bestAsg (ovMat (mems old) gs) := ⟨_, rfl⟩
          have hal : a.length = old.length := by rw [ha, HGS.out]; exact asC_len HE.out HGR.out
          have HA := hid (show asC old g = a from by rw [ha, HGS.out]; rfl)
          have hsA := o6.sl
          have hsG := (hG.mono x4).mono (x5.trans x6)
          have xw6 := (xw3.trans x4).trans (x5.trans x6)
          rw [← ha] at hsA
          clear o5 o6 hM hG x4 x5 x6 xw3 ha
          obtain ⟨Aa, ca, ea, _⟩ := hsA.form
          subst ea
          go_wp2_with fail
          go_loopw [2, 11, 12] (fun nx t i wr => ∃ k : Nat, k ≤ gs.length ∧ i = .int .i64 k ∧ nx = .int .i64 (outC old a gs n k).2 ∧ Sl entityR wr t (sortF (outC old a gs n k).1) ∧ Ext w6 wr) (fun _ _ i _ => gs.length - (intOf i).toNat)
          case atStart => exact ⟨0, Nat.zero_le _, rfl, rfl, (Bld.lit (R := entityO) w6 (Nat.le_refl _) 42).sl, (Ext.refl _).alloc _⟩
          case round =>
            obtain ⟨k, hk, rfl, rfl, hO, hx⟩ := hrel
            obtain ⟨hol, hon, hon2⟩ := outC_len old a gs n k
            by_cases hlt : k < gs.length
            · obtain ⟨bg, og, A9, c9, eG, hrow, cG⟩ := (hsG.mono hx).sl hlt
              subst eG
              obtain ⟨w0, hw0⟩ : ∃ w0, w0 = wr := ⟨_, rfl⟩
              rw [← hw0] at hO hx hrow cG ⊢
              clear hw0
              have HO := hid hO
              have HRW := hid hrow
              have hnx : (0 : Int) ≤ (outC old a gs n k).2 ∧ (outC old a gs n k).2 ≤ 9999 := by omega
              have HST := hid (show outC old a gs n (k + 1) = stepC old a gs (outC old a gs n k) k from rfl)
              obtain ⟨oc, hoc⟩ : ∃ oc, oc = (outC old a gs n k) := ⟨_, rfl⟩
              have HOC := hid hoc
              rw [← hoc] at hnx hol HO HST ⊢
              clear hO hrow hon hon2 hoc
              clear h0
              go_wp2_with fail
              go_loop [13, 14] (fun d i => ∃ j : Nat, j ≤ a.length ∧ i = .int .i64 j ∧ d = .int .i64 (idTo old a k j)) (fun _ i => a.length - (intOf i).toNat)
              case atStart => exact ⟨0, Nat.zero_le _, rfl, rfl⟩
              case round =>
                obtain ⟨j, hj, rfl, rfl⟩ := hrel
                by_cases hja : j < a.length
                · obtain ⟨ba, oa, eA, hI, c1⟩ := (hsA.mono hx).int hja
                  subst eA
                  have hjo : j < old.length := by omega
                  obtain ⟨bo, oo, A2, c2, eO, _, _, d0, _⟩ := (h.mono (xw6.trans hx)).ent hjo
                  cases eO
                  have HS := hid (show idTo old a k (j + 1) = if a[j] = (k : Int) then old[j].id else idTo old a k j from by
                    show (if a.getD j (-1) = (k : Int) then (old.getD j ⟨0, []⟩).id else idTo old a k j) = _
                    rw [getD_at hja, getD_at hjo])
                  by_cases hq : a[j] = (k : Int)
                  · have e1 : (a[j] == (k : Int)) = true := by simp [hq]
                    have HT := hid (show idTo old a k (j + 1) = old[j].id from by rw [HS.out, if_pos hq])
                    clear hq
                    go_wp2
                    go_round
                    case rel => exact ⟨j + 1, by omega, by go_num, by rw [HT.out]⟩
                    case measure => simp [intOf]; omega
                  · have e1 : (a[j] == (k : Int)) = false := by simp [hq]
                    have HT := hid (show idTo old a k (j + 1) = idTo old a k j from by rw [HS.out, if_neg hq])
                    clear hq
                    go_wp2
                    go_round
                    case rel => exact ⟨j + 1, by omega, by go_num, by rw [HT.out]⟩
                    case measure => simp [intOf]; omega
                · have hje : j = a.length := by omega
                  subst hje
                  have HPUT := hid (fun (id : Int) (hi : I64 id) => spec_l26Put _ (.agg #[.int .i64 id, .slice A9 gs[k].length c9]) _ ⟨id, gs[k]⟩ w0 HO.out ⟨_, rfl, hi, HRW.out⟩ (by rw [(sortF_perm _).length_eq]; omega))
                  have hid2 := idTo_bd (by omega : (0 : Int) ≤ 0 ∧ (0 : Int) ≤ 9999) (fun e he => by have := hob e he; omega) a k a.length
                  have HGK := hid (getD_at (d := []) hlt)
                  obtain ⟨d, hd⟩ : ∃ d, d = idTo old a k a.length := ⟨_, rfl⟩
                  rw [← hd] at hid2 ⊢
                  by_cases hz : d = 0
                  · have HT := hid (show stepC old a gs oc k = (oc.1 ++ [⟨oc.2, gs[k]⟩], oc.2 + 1) from by unfold stepC; rw [← hd, if_pos hz, HGK.out])
                    have e1 : (d == 0) = true := by simp [hz]
                    clear hd hz
                    go_wp2_with fail
                    refine (HPUT.out oc.2 (by unfold I64; omega)).mono ?_
                    rintro e w7 ⟨v7, rfl, h7, x7⟩
                    go_wp2
                    go_roundw
                    case rel => exact ⟨k + 1, by omega, by go_num, by rw [HST.out, HT.out], by rw [HST.out, HT.out, sortF_snoc]; exact h7, hx.trans x7⟩
                    case measure => simp [intOf]; omega
                  · have HT := hid (show stepC old a gs oc k = (oc.1 ++ [⟨d, gs[k]⟩], oc.2) from by unfold stepC; rw [← hd, if_neg hz, HGK.out])
                    have e1 : (d == 0) = false := by simp [hz]
                    clear hd hz
                    go_wp2_with fail
                    refine (HPUT.out d (by unfold I64; omega)).mono ?_
                    rintro e w7 ⟨v7, rfl, h7, x7⟩
                    go_wp2
                    go_roundw
                    case rel => exact ⟨k + 1, by omega, by go_num, by rw [HST.out, HT.out], by rw [HST.out, HT.out, sortF_snoc]; exact h7, hx.trans x7⟩
                    case measure => simp [intOf]; omega
            · have hke : k = gs.length := by omega
              subst hke
              have HFIN := hid hO
              have HY := hid (carry_yes HC.out)
              clear hO hon hon2 hol
              go_wp2
              refine bodyPost_ret (v := .tuple #[u11, .int .i64 (outC old a gs n gs.length).2, .bool true]) (by simp [results, Try.results8, go_sem]) rfl ?_
              rw [HY.out, HA.out, show gsC g = gs from HGS.out.symm]
              exact ⟨_, rfl, HFIN.out, xw6.trans hx⟩

end Go.Proofs.Ytfcbapaojoecgab
