/-
  WALK: CarryIdentities (the program's).
-/
import Derived.Test.YtfcbapaojoecgabMgEndFnId22
import Derived.Test.YtfcbapaojoecgabMgEndFnId16
import Derived.Test.YtfcbapaojoecgabMgEndFnId6
import Derived.Test.YtfcbapaojoecgabMgEndFnId12

namespace Go.Proofs.Ytfcbapaojoecgab
open Go.RowKit

theorem cell_same {w w2 : World} {b i : Nat} {u : Value} (h : w2.heap[b]? = w.heap[b]?) (hc : w.cell? ⟨b, i, none⟩ = some u) : w2.cell? ⟨b, i, none⟩ = some u := by
  rw [← hc]
  unfold World.cell?
  simp only [h]
set_option maxHeartbeats 4000000 in
set_option maxRecDepth 20000 in
theorem impl_CarryIdentities (v u : Value) (old : List Entity) (g : List (List Int)) (n : Int) (w : World) (h : Sl entityR w v old) (h2 : Sl (slR intR) w u g) (hb : msEnts old ≤ 1048576) (hb2 : sumLen g ≤ 1048576) :
    Calls Try.prog 11 #[v, u, .int .i64 n] w fun e w2 => ∃ v2 F, e = .returned (.tuple #[v2, .int .i64 (carry old g n).2.1, .bool (carry old g n).2.2]) ∧ OwnSl entityO w2 v2 (carry old g n).1 F ∧ NewF w F ∧ Ext w w2 := by
  obtain ⟨A, cap, rfl, hm⟩ := h.form
  obtain ⟨B, cap2, rfl, hm2⟩ := h2.form
  go_enter Try.func11, Try.ntmps11
  go_wp2_with fail
  refine (impl_AreEntities _ old _ h hb).mono ?_
  rintro e w1 ⟨rfl, x1⟩
  cases he : areEnts old with
  | false =>
    have HC := hid (carry_no (n := n) (show okC old g n = false by unfold okC; rw [he]; rfl))
    go_wp2_with fail
    refine bodyPost_ret (v := .tuple #[.slice none 0 0, .int .i64 0, .bool false]) (by simp [results, Try.results11, go_sem]) rfl ?_
    rw [HC.out]
    exact ⟨_, [], rfl, .inl ⟨rfl, rfl, none, 0, rfl, Nat.zero_le _⟩, .nil _, x1⟩
  | true =>
    go_wp2_with fail
    refine (impl_AreGroups _ g _ (h2.mono x1) (by omega)).mono ?_
    rintro e w2 ⟨rfl, x2⟩
    cases hg : areGroups g with
    | false =>
      have HC := hid (carry_no (n := n) (show okC old g n = false by unfold okC; rw [he, hg]; rfl))
      go_wp2_with fail
      refine bodyPost_ret (v := .tuple #[.slice none 0 0, .int .i64 0, .bool false]) (by simp [results, Try.results11, go_sem]) rfl ?_
      rw [HC.out]
      exact ⟨_, [], rfl, .inl ⟨rfl, rfl, none, 0, rfl, Nat.zero_le _⟩, .nil _, x1.trans x2⟩
    | true =>
      go_wp2_with fail
      refine (impl_within _ _ _ _).mono ?_
      rintro e w2' ⟨rfl, rfl⟩
      cases hi : inB n 1 9991 with
      | false =>
        have HC := hid (carry_no (n := n) (show okC old g n = false by unfold okC; rw [he, hg, hi]; rfl))
        go_wp2_with fail
        refine bodyPost_ret (v := .tuple #[.slice none 0 0, .int .i64 0, .bool false]) (by simp [results, Try.results11, go_sem]) rfl ?_
        rw [HC.out]
        exact ⟨_, [], rfl, .inl ⟨rfl, rfl, none, 0, rfl, Nat.zero_le _⟩, .nil _, x1.trans x2⟩
      | true =>
        have hn : 1 ≤ n ∧ n ≤ 9991 := of_decide_eq_true hi
        obtain ⟨hol8, hob0⟩ := ents_ids he
        have hol4 := (ents_small he).1
        obtain ⟨hgl8, hgm⟩ := gsC_small hg
        unfold gsC at hgm
        have hgl2 := groups_small hg
        by_cases h0 : 0 < old.length
        · have hlt0 : old.length - 1 < old.length := by omega
          obtain ⟨b, off, A2, c2, eO, _, _, d0, _⟩ := (h.mono (x1.trans x2)).ent hlt0
          subst eO
          have hsub : ((old.length - 1 : Nat) : Int) = (old.length : Int) - 1 := by omega
          have HL := hid (show lastId old = old[old.length - 1].id from by unfold lastId; rw [getD_at hlt0])
          by_cases hge : n ≤ old[old.length - 1].id
          · have HC := hid (carry_no (n := n) (show okC old g n = false by unfold okC; rw [he, hg, hi, decide_eq_true h0, HL.out, decide_eq_true hge]; rfl))
            have e0 : decide (n ≤ old[old.length - 1].id) = true := by simp only [decide_eq_true_eq]; exact hge
            go_wp2_with fail
            refine bodyPost_ret (v := .tuple #[.slice none 0 0, .int .i64 0, .bool false]) (by simp [results, Try.results11, go_sem]) rfl ?_
            rw [HC.out]
            exact ⟨_, [], rfl, .inl ⟨rfl, rfl, none, 0, rfl, Nat.zero_le _⟩, .nil _, x1.trans x2⟩
          · have HC := hid (show okC old g n = true by unfold okC; rw [he, hg, hi, decide_eq_true h0, HL.out, decide_eq_false hge]; rfl)
            have e0 : decide (n ≤ old[old.length - 1].id) = false := by simp only [decide_eq_false_iff_not]; exact hge
            have HE := hid he
            have HGR := hid hg
            obtain ⟨gs, hgs⟩ : ∃ gs, gs = sortK hdI g := ⟨_, rfl⟩
            have hob := hob0
            have hg8 := hgl2.2.1
            have hgs8 : gs.length ≤ 8 := by rw [hgs]; exact hgl8
            rw [← hgs] at hgm
            have hbo : old.length ≤ 8 := hol8
            clear hol8 hob0 he hg hi hgl2 hgl8
            go_wp2_with fail
            clear h0
            refine (slices_Clone_rows _ g _ (h2.mono (x1.trans x2)) (by omega)).mono ?_
            rintro e w3 ⟨v3, rfl, hB3, x3⟩
            go_wp2_with fail
            refine (sort_rows v3 g w2 w3 w2.heap.size hB3 (Nat.le_refl _) x3 (by omega)).mono ?_
            rintro e w4 ⟨ys, rfl, hB4, hpm, hpw, x4⟩
            have hys := rows_eq HGR.out hpm hpw
            rw [hys, ← hgs] at hB4
            have hG := Sl.of_at hB4.sl x4
            obtain ⟨Ag, cg, e3, _⟩ := hG.form
            subst e3
            have xw4 := (x1.trans x2).trans x4
            have HGS := hid hgs
            clear hB3 hB4 hpm hpw hys x1 x2 x3 x4 hgs
            obtain ⟨i1, hi1, hz3, hz4, hz5⟩ := info_parts infoInt
            have hmk := run_mk (P := Try.prog) 40 3 i1 _ [.int .i64 0] 8 Try.underlying40 hi1 hz3 rfl hz4 hz5 gs.length (by omega) (by omega)
            rw [flat_rep] at hmk
            obtain ⟨Z, hZ⟩ : ∃ Z, Z = (List.replicate gs.length (Value.int .i64 0)).toArray := ⟨_, rfl⟩
            rw [← hZ] at hmk
            have HIDS0 := hid (show OwnSl intO (w4.alloc (.cells Z 3)) (.slice (some ⟨w4.heap.size, 0, none⟩) gs.length gs.length) (List.replicate gs.length 0) [w4.heap.size] from by rw [hZ]; exact zeros_own2 w4 gs.length _ (by unfold maxLen; omega))
            clear hZ
            go_wp2_with fail
            have hids0 := HIDS0.out
            obtain ⟨wz, hwz⟩ : ∃ wz, wz = w4.alloc (.cells Z 3) := ⟨_, rfl⟩
            have xz : Ext w4 wz := by rw [hwz]; exact (Ext.refl _).alloc _
            obtain ⟨gI, hgI⟩ : ∃ gI, gI = w4.heap.size := ⟨_, rfl⟩
            have hgz : gI < wz.heap.size := by rw [hwz, hgI]; simp
            have hgw : w4.heap.size ≤ gI := by rw [hgI]; exact Nat.le_refl _
            rw [← hwz, ← hgI] at hids0 ⊢
            clear hwz hgI hmk hi1 hz3 hz4 hz5 HIDS0
            refine (impl_membersOf _ old _ (h.mono (xw4.trans xz)) (by omega)).mono ?_
            rintro e w5 ⟨v5, rfl, hM, x5⟩
            go_wp2_with fail
            refine (impl_overlapMatrix _ _ (mems old) gs _ hM (hG.mono (xz.trans x5)) (by rw [mems_len]; exact hbo) hgs8).mono ?_
            rintro e w6 ⟨v6, F6, rfl, o6, _, x6⟩
            go_wp2_with fail
            refine (impl_bestAssignment _ ((mems old).map (ovRow gs)) _ o6.sl (ovMat_ok (mems old) gs (by rw [mems_len]; exact hbo) hgs8).2).mono ?_
            rintro e w7 ⟨v7, F7, rfl, o7, n7, x7⟩
            obtain ⟨a, ha⟩ : ∃ a, a = asgFrom ((mems old).map (ovRow gs)) 0 := ⟨_, rfl⟩
            have haC : asC old g = a := by
              obtain ⟨q1, q2⟩ := ovMat_ok (mems old) gs (by rw [mems_len]; exact hbo) hgs8
              rw [ha]
              unfold asC gsC bestAsg
              rw [← HGS.out, q1, if_pos q2]
            have hal : a.length = old.length := by rw [← haC]; exact asC_len HE.out HGR.out
            have habd : ∀ x ∈ a, -1 ≤ x ∧ x < gs.length := by
              have := asC_bd HE.out HGR.out
              unfold gsC at this
              rwa [← HGS.out, haC] at this
            have HA := hid haC
            have x57 := (x5.trans x6).trans x7
            have hids7 := hids0.ext x57
            have hk7 : ∀ b ∈ F7, gI < b := fun b hb => by have := n7.2 b hb; have := x5.size; have := x6.size; omega
            have x47 := xz.trans x57
            have hg7 : gI < w7.heap.size := Nat.lt_of_lt_of_le hgz x57.size
            rw [← ha] at o7
            clear o6 hM n7 x5 x6 x7 ha haC hids0 xz x57 hgz
            obtain ⟨Aa, ca, ea, _⟩ := o7.form
            subst ea
            rw [show List.replicate gs.length (0 : Int) = idsAt old a gs.length 0 from (idsAt_zero old a gs.length).symm] at hids7
            have HABD := hid habd
            have HGM := hid hgm
            clear habd hgm
            go_wp2_with fail
            go_loopw [56] (fun i wr => ∃ j : Nat, j ≤ a.length ∧ i = .int .i64 j ∧ OwnSl intO wr (.slice (some ⟨gI, 0, none⟩) gs.length gs.length) (idsAt old a gs.length j) [gI] ∧ (∀ b, b < w7.heap.size → b ≠ gI → wr.heap[b]? = w7.heap[b]?) ∧ w7.heap.size ≤ wr.heap.size ∧ Ext w4 wr) (fun i _ => a.length - (intOf i).toNat)
            case atStart => exact ⟨0, Nat.zero_le _, rfl, hids7, fun _ _ _ => rfl, Nat.le_refl _, x47⟩
            case round =>
              clear hids7 x47
              obtain ⟨j, hj, rfl, hI, hkp, hsz, hx⟩ := hrel
              have hsA : Sl intR wr (.slice Aa a.length ca) a := (o7.keep fun b hb => hkp b (o7.lt b hb) (by have := hk7 b hb; omega)).sl
              by_cases hja : j < a.length
              · obtain ⟨ba, oa, eA, hIa, c1⟩ := hsA.int hja
                cases eA
                have hjo : j < old.length := by omega
                obtain ⟨bo, oo, A2, c2, eO, hIo, _, d0, _⟩ := (h.mono (xw4.trans hx)).ent hjo
                cases eO
                have hab := HABD.out a[j] (List.getElem_mem hja)
                have HKP := hid hkp
                have HSZ := hid hsz
                have HX := hid hx
                by_cases h0 : 0 ≤ a[j]
                · have HS := hid (idsAt_set (m := gs.length) hja hjo h0)
                  obtain ⟨p, hp⟩ : ∃ p : Nat, a[j] = (p : Int) := ⟨a[j].toNat, by omega⟩
                  have hpn : a[j].toNat = p := by omega
                  have hpl : p < (idsAt old a gs.length j).length := by rw [idsAt_len]; omega
                  obtain ⟨g9, off9, cap9, e9, _, hc9, hf9, hst9⟩ := hI.int_store (by simp) hpl
                  injection e9 with e1 e2 e3
                  injection e1 with e1
                  injection e1 with e4 e5
                  subst e4; subst e5
                  rw [Nat.zero_add] at hc9 hf9 hst9
                  have HST := hid (hst9 old[j].id hIo)
                  have HPN := hid hpn
                  have hpm : p < gs.length := by omega
                  have HP := hid hp
                  rw [hp] at c1
                  clear hI hst9 hkp hsz hx e2 e3 hab hp hpn h0
                  go_wp2
                  go_roundw
                  case rel => exact ⟨j + 1, by omega, by go_num, by rw [HS.out, HPN.out]; exact HST.out, fun b hb hne => (keep_setCell hne).trans (HKP.out b hb hne), by rw [World.size_setCell]; exact HSZ.out, HX.out.setCell hgw _⟩
                  case measure => simp [intOf]; omega
                · have HS := hid (idsAt_skip (m := gs.length) hja h0 (old := old))
                  have HI := hid hI
                  clear hI hkp hsz hx hab
                  go_wp2
                  go_roundw
                  case rel => exact ⟨j + 1, by omega, by go_num, by rw [HS.out]; exact HI.out, HKP.out, HSZ.out, HX.out⟩
                  case measure => simp [intOf]; omega
              · have hje : j = a.length := by omega
                subst hje
                obtain ⟨wa, hwa⟩ : ∃ wa, wa = wr := ⟨_, rfl⟩
                rw [← hwa] at hI hsz hx ⊢
                obtain ⟨bs, hbs⟩ : ∃ bs, bs = wa.heap.size := ⟨_, rfl⟩
                have hgwa : gI < bs := by rw [hbs]; exact Nat.lt_of_lt_of_le hg7 hsz
                have hbsa : bs ≤ wa.heap.size := Nat.le_of_eq hbs
                have HAL := hid hal
                clear hwa hkp hsz hsA hj hja o7 hk7 hbs
                go_wp2_with fail
                clear hal
                go_loopw [2, 13, 74] (fun nx t i wr => ∃ (k : Nat) (F : List Nat) (l : List Int), k ≤ gs.length ∧ i = .int .i64 k ∧ nx = .int .i64 (outC old a gs n k).2 ∧ Bld entityO wr bs 42 t (outC old a gs n k).1 F ∧ OwnSl intO wr (.slice (some ⟨gI, 0, none⟩) gs.length gs.length) l [gI] ∧ l.length = gs.length ∧ (∀ q, k ≤ q → q < gs.length → l.getD q 0 = idTo old a q a.length) ∧ bs ≤ wr.heap.size ∧ Ext w4 wr) (fun _ _ i _ => gs.length - (intOf i).toNat)
                case atStart => exact ⟨0, [], _, Nat.zero_le _, rfl, rfl, Bld.nil _ _ _, hI, idsAt_len _ _ _ _, fun q _ hq => by rw [getD_at (by rw [idsAt_len]; exact hq)]; simp [idsAt], hbsa, hx⟩
                case round =>
                  clear hI hx hbsa
                  obtain ⟨k, F, l, hk, rfl, rfl, hB, hI, hll, hlq, hbsr, hx⟩ := hrel
                  obtain ⟨hol, hon, hon2⟩ := outC_len old a gs n k
                  by_cases hlt : k < gs.length
                  · obtain ⟨bg, og, A9, c9, eG, hrow, cG0⟩ := hG.sl hlt
                    cases eG
                    have cG := hx.cell cG0
                    have HRW := hid (show ∀ W, Ext w4 W → Sl intR W (.slice A9 gs[k].length c9) gs[k] from fun W y => hrow.mono y)
                    have hnx : (0 : Int) ≤ (outC old a gs n k).2 ∧ (outC old a gs n k).2 ≤ 9999 := by omega
                    have HST := hid (show outC old a gs n (k + 1) = stepC old a gs (outC old a gs n k) k from rfl)
                    have hlk : l.getD k 0 = idTo old a k a.length := hlq k (Nat.le_refl _) hlt
                    have hkl : k < l.length := by omega
                    rw [getD_at hkl] at hlk
                    have hbd := idTo_bd (by omega : (0 : Int) ≤ 0 ∧ (0 : Int) ≤ 9999) (fun e he => by have := hob e he; omega) a k a.length
                    rw [← hlk] at hbd
                    have HGK := hid (getD_at (d := []) hlt)
                    obtain ⟨oc, hoc⟩ : ∃ oc, oc = (outC old a gs n k) := ⟨_, rfl⟩
                    rw [← hoc] at hnx hol hB HST ⊢
                    have HG8 := hid (show gs[k].length ≤ 1048576 from by have := HGM.out gs[k] (List.getElem_mem hlt); omega)
                    have HL2 := hid (show oc.1.length + 1 ≤ 1099511627776 by omega)
                    have HW4 := hid (Nat.le_trans hgw (Nat.le_of_lt hgwa))
                    have HGI := hid hgwa
                    obtain ⟨g9, off9, cap9, e9, _, hc9, hf9, hst9⟩ := hI.int_store (by simp) hkl
                    injection e9 with e1 e2 e3
                    injection e1 with e1
                    injection e1 with e4 e5
                    subst e4; subst e5
                    rw [Nat.zero_add] at hc9 hf9 hst9
                    have HLQ := hid hlq
                    have HLL := hid hll
                    have hdd : idTo old a k a.length = l[k] := hlk.symm
                    obtain ⟨d, hd⟩ : ∃ d, d = l[k] := ⟨_, rfl⟩
                    rw [← hd] at hc9 hbd hdd
                    have HIx := hid hI
                    have HBx := hid hB
                    have HXx := hid hx
                    have HBSx := hid hbsr
                    clear hon hon2 hoc e2 e3 hlk hlq hll hd hI hB hx hbsr hrow cG0
                    by_cases hz : d = 0
                    · have HT := hid (show stepC old a gs oc k = (oc.1 ++ [⟨oc.2, gs[k]⟩], oc.2 + 1) from by unfold stepC; rw [hdd, if_pos hz, HGK.out])
                      have e1 : (d == 0) = true := by simp [hz]
                      have HIK := hid (show I64 oc.2 by unfold I64; omega)
                      have HST9 := hid (hst9 oc.2 HIK.out)
                      have HL9 := hid (show (l.set k oc.2).length = gs.length ∧ ∀ q, k + 1 ≤ q → q < gs.length → (l.set k oc.2).getD q 0 = idTo old a q a.length from ⟨by rw [List.length_set]; exact HLL.out, fun q h1 h2 => by rw [List.getD_eq_getElem?_getD, List.getElem?_set_ne (by omega), ← List.getD_eq_getElem?_getD]; exact HLQ.out q (by omega) h2⟩)
                      have HC9 := hid (show (wr.setCell ⟨gI, k, none⟩ (.int .i64 oc.2)).cell? ⟨gI, k, none⟩ = some (.int .i64 oc.2) from by
                        obtain ⟨b7, o7, e7, _, hc7⟩ := HST9.out.sl.int (i := k) (by rw [List.length_set]; exact hkl)
                        injection e7 with e7
                        injection e7 with e7 e8 _
                        subst e7; subst e8
                        rw [Nat.zero_add] at hc7
                        simpa using hc7)
                      clear hst9 hdd hz
                      go_wp2_with fail
                      clear hc9 hf9
                      obtain ⟨wq, hwq⟩ : ∃ wq, wq = wr.setCell ⟨gI, k, none⟩ (.int .i64 oc.2) := ⟨_, rfl⟩
                      have HX4 := hid (show Ext w4 wq by rw [hwq]; exact HXx.out.setCell hgw _)
                      have HB := hid (show Bld entityO wq bs 42 u13 oc.1 F by rw [hwq]; exact HBx.out.keep fun b hb _ => keep_setCell (by show b ≠ gI; omega))
                      have HBS := hid (show bs ≤ wq.heap.size by rw [hwq, World.size_setCell]; exact HBSx.out)
                      have HIDS := hid (show OwnSl intO wq (.slice (some ⟨gI, 0, none⟩) gs.length gs.length) (l.set k oc.2) [gI] by rw [hwq]; exact HST9.out)
                      have HBQ := hid (show ∀ W, Ext wq W → W.cell? ⟨gI, k, none⟩ = some (.int .i64 oc.2) from fun W y => y.cell (by rw [hwq]; exact HC9.out))
                      rw [← hwq]
                      clear hwq
                      go_region_held3 (fun w' => w'.cell? ⟨gI, k, none⟩ = some (.int .i64 oc.2)) (first | (refine HBQ.out _ ?_; ((repeat (first | with_reducible exact Ext.refl _ | with_reducible assumption | with_reducible refine Ext.drew ?_ | with_reducible refine Ext.alloc ?_ _ | with_reducible refine Ext.trans ?_ (by with_reducible assumption))); done)) | (refine cell_same (k9 gI (by rw [World.size_alloc]; have y8 : wq.heap.size ≤ w8.heap.size := x8.size; have g8 := HGI.out; have s8 := HBS.out; omega) (fun e => by have y9 := (HB.out.lt.2 gI e).2; have g8 := HGI.out; omega)) (HBQ.out _ ?_); ((repeat (first | with_reducible exact Ext.refl _ | with_reducible assumption | with_reducible refine Ext.drew ?_ | with_reducible refine Ext.alloc ?_ _ | with_reducible refine Ext.trans ?_ (by with_reducible assumption))); done))) (first | (go_at_call 45; refine (slices_Clone_ints _ gs[k] _ ?hr HG8.out).mono ?_; (case hr => exact HRW.out _ (HX4.out.trans (by repeat (first | with_reducible exact Ext.refl _ | with_reducible assumption | with_reducible refine Ext.drew ?_ | with_reducible refine Ext.alloc ?_ _ | with_reducible refine Ext.trans ?_ (by with_reducible assumption))))); rintro e w8 ⟨v8, F8, rfl, o8, n8, x8⟩; obtain ⟨A8, c8, e8, _⟩ := o8.form; subst e8) | (refine step_app1k (R := entityO) elemEnt (by decide) rfl _ _ rfl (HB.out.ext (by repeat (first | with_reducible exact Ext.refl _ | with_reducible assumption | with_reducible refine Ext.drew ?_ | with_reducible refine Ext.alloc ?_ _ | with_reducible refine Ext.trans ?_ (by with_reducible assumption)))) rfl w8.heap.size 1 rfl (heap_alloc_new w8 _) (one_ent _ _ _ _) (y := ⟨oc.2, gs[k]⟩) (F := F) (G := F8) ⟨_, rfl, HIK.out, o8.ext ((Ext.refl w8).alloc _)⟩ (HB.out.fresh n8 HBS.out) HL2.out (by decide) (Nat.le_trans HBS.out (by rw [World.size_alloc]; exact Nat.le_succ_of_le x8.size)) (w0 := w4) HW4.out (HX4.out.trans (by repeat (first | with_reducible exact Ext.refl _ | with_reducible assumption | with_reducible refine Ext.drew ?_ | with_reducible refine Ext.alloc ?_ _ | with_reducible refine Ext.trans ?_ (by with_reducible assumption)))) ?_; intro v9 w9 hB9 x9 k9))
                      all_goals
                        have hI9 : OwnSl intO w9 (.slice (some ⟨gI, 0, none⟩) gs.length gs.length) (l.set k oc.2) [gI] := HIDS.out.keep (fun b hb => by
                          rw [List.mem_singleton] at hb
                          subst hb
                          have y8 : wq.heap.size ≤ w8.heap.size := x8.size
                          have g8 := HGI.out
                          have s8 := HBS.out
                          have z8 : w8.heap[b]? = wq.heap[b]? := x8.block (by show b < wq.heap.size; omega)
                          exact (k9 b (by rw [World.size_alloc]; omega) (fun e => by have := (HB.out.lt.2 b e).2; omega)).trans ((((Ext.refl w8).alloc _).block (by omega)).trans z8))
                        have HI9 := hid hI9
                        have HB9 := hid hB9
                        have HX9 := hid x9
                        have HBZ := hid (hB9.size_le (by simp))
                        clear hI9 hB9 x9 k9 x8 n8 o8
                        go_wp2
                        go_roundw
                        case rel => exact ⟨k + 1, F ++ F8, l.set k oc.2, by omega, by go_num, by rw [HST.out, HT.out], by rw [HST.out, HT.out]; exact HB9.out, HI9.out, HL9.out.1, HL9.out.2, HBZ.out, HX9.out⟩
                        case measure => simp [intOf]; omega
                    · have HT := hid (show stepC old a gs oc k = (oc.1 ++ [⟨d, gs[k]⟩], oc.2) from by unfold stepC; rw [hdd, if_neg hz, HGK.out])
                      have e1 : (d == 0) = false := by simp [hz]
                      have HIK := hid (show I64 d by unfold I64; omega)
                      have HL9 := hid (show l.length = gs.length ∧ ∀ q, k + 1 ≤ q → q < gs.length → l.getD q 0 = idTo old a q a.length from ⟨HLL.out, fun q h1 h2 => HLQ.out q (by omega) h2⟩)
                      clear hst9 hdd hz
                      go_wp2_with fail
                      obtain ⟨wq, hwq⟩ : ∃ wq, wq = wr := ⟨_, rfl⟩
                      have HX4 := hid (show Ext w4 wq by rw [hwq]; exact HXx.out)
                      have HB := hid (show Bld entityO wq bs 42 u13 oc.1 F by rw [hwq]; exact HBx.out)
                      have HBS := hid (show bs ≤ wq.heap.size by rw [hwq]; exact HBSx.out)
                      have HIDS := hid (show OwnSl intO wq (.slice (some ⟨gI, 0, none⟩) gs.length gs.length) l [gI] by rw [hwq]; exact HIx.out)
                      have HBQ := hid (show ∀ W, Ext wq W → W.cell? ⟨gI, k, none⟩ = some (.int .i64 d) from fun W y => y.cell (by rw [hwq]; exact hc9))
                      rw [← hwq]
                      clear hwq hc9 hf9
                      go_region_held3 (fun w' => w'.cell? ⟨gI, k, none⟩ = some (.int .i64 d)) (first | (refine HBQ.out _ ?_; ((repeat (first | with_reducible exact Ext.refl _ | with_reducible assumption | with_reducible refine Ext.drew ?_ | with_reducible refine Ext.alloc ?_ _ | with_reducible refine Ext.trans ?_ (by with_reducible assumption))); done)) | (refine cell_same (k9 gI (by rw [World.size_alloc]; have y8 : wq.heap.size ≤ w8.heap.size := x8.size; have g8 := HGI.out; have s8 := HBS.out; omega) (fun e => by have y9 := (HB.out.lt.2 gI e).2; have g8 := HGI.out; omega)) (HBQ.out _ ?_); ((repeat (first | with_reducible exact Ext.refl _ | with_reducible assumption | with_reducible refine Ext.drew ?_ | with_reducible refine Ext.alloc ?_ _ | with_reducible refine Ext.trans ?_ (by with_reducible assumption))); done))) (first | (go_at_call 45; refine (slices_Clone_ints _ gs[k] _ ?hr HG8.out).mono ?_; (case hr => exact HRW.out _ (HX4.out.trans (by repeat (first | with_reducible exact Ext.refl _ | with_reducible assumption | with_reducible refine Ext.drew ?_ | with_reducible refine Ext.alloc ?_ _ | with_reducible refine Ext.trans ?_ (by with_reducible assumption))))); rintro e w8 ⟨v8, F8, rfl, o8, n8, x8⟩; obtain ⟨A8, c8, e8, _⟩ := o8.form; subst e8) | (refine step_app1k (R := entityO) elemEnt (by decide) rfl _ _ rfl (HB.out.ext (by repeat (first | with_reducible exact Ext.refl _ | with_reducible assumption | with_reducible refine Ext.drew ?_ | with_reducible refine Ext.alloc ?_ _ | with_reducible refine Ext.trans ?_ (by with_reducible assumption)))) rfl w8.heap.size 1 rfl (heap_alloc_new w8 _) (one_ent _ _ _ _) (y := ⟨d, gs[k]⟩) (F := F) (G := F8) ⟨_, rfl, HIK.out, o8.ext ((Ext.refl w8).alloc _)⟩ (HB.out.fresh n8 HBS.out) HL2.out (by decide) (Nat.le_trans HBS.out (by rw [World.size_alloc]; exact Nat.le_succ_of_le x8.size)) (w0 := w4) HW4.out (HX4.out.trans (by repeat (first | with_reducible exact Ext.refl _ | with_reducible assumption | with_reducible refine Ext.drew ?_ | with_reducible refine Ext.alloc ?_ _ | with_reducible refine Ext.trans ?_ (by with_reducible assumption)))) ?_; intro v9 w9 hB9 x9 k9))
                      all_goals
                        have hI9 : OwnSl intO w9 (.slice (some ⟨gI, 0, none⟩) gs.length gs.length) (l) [gI] := HIDS.out.keep (fun b hb => by
                          rw [List.mem_singleton] at hb
                          subst hb
                          have y8 : wq.heap.size ≤ w8.heap.size := x8.size
                          have g8 := HGI.out
                          have s8 := HBS.out
                          have z8 : w8.heap[b]? = wq.heap[b]? := x8.block (by show b < wq.heap.size; omega)
                          exact (k9 b (by rw [World.size_alloc]; omega) (fun e => by have := (HB.out.lt.2 b e).2; omega)).trans ((((Ext.refl w8).alloc _).block (by omega)).trans z8))
                        have HI9 := hid hI9
                        have HB9 := hid hB9
                        have HX9 := hid x9
                        have HBZ := hid (hB9.size_le (by simp))
                        clear hI9 hB9 x9 k9 x8 n8 o8
                        go_wp2
                        go_roundw
                        case rel => exact ⟨k + 1, F ++ F8, l, by omega, by go_num, by rw [HST.out, HT.out], by rw [HST.out, HT.out]; exact HB9.out, HI9.out, HL9.out.1, HL9.out.2, HBZ.out, HX9.out⟩
                        case measure => simp [intOf]; omega
                  · have hke : k = gs.length := by omega
                    subst hke
                    have HY := hid (carry_yes HC.out)
                    have hlo : (outC old a gs n gs.length).1.length ≤ 1048576 := by omega
                    clear hon hon2 hol hI hlq
                    go_wp2_with fail
                    refine (sort_ents _ _ F _ bs hB hlo).mono ?_
                    rintro e wF ⟨ys, F2, rfl, hB9, hp9, hs9, hx9⟩
                    have hy := ents_eq HC.out gs (Nat.le_of_eq HAL.out) hp9 hs9
                    rw [hy] at hB9
                    obtain ⟨F3, o3, n3, m3⟩ := hB9.done
                    have HO3 := hid o3
                    have HN3 := hid (show NewF w F3 from ⟨n3, fun b hb => by have := m3 b hb; have := xw4.size; omega⟩)
                    have HXF := hid (xw4.trans (hx9 w4 (by omega) hx))
                    clear hB9 hB hp9 hs9 hx9 hy o3 n3 m3 hx
                    go_wp2
                    refine bodyPost_ret (v := .tuple #[u13, .int .i64 (outC old a gs n gs.length).2, .bool true]) (by simp [results, Try.results11, go_sem]) rfl ?_
                    rw [HY.out, HA.out, show gsC g = gs from HGS.out.symm]
                    exact ⟨_, F3, rfl, HO3.out, HN3.out, HXF.out⟩
        · have HC := hid (show okC old g n = true by unfold okC; rw [he, hg, hi, decide_eq_false h0]; rfl)
          have HE := hid he
          have HGR := hid hg
          obtain ⟨gs, hgs⟩ : ∃ gs, gs = sortK hdI g := ⟨_, rfl⟩
          have hob := hob0
          have hg8 := hgl2.2.1
          have hgs8 : gs.length ≤ 8 := by rw [hgs]; exact hgl8
          rw [← hgs] at hgm
          have hbo : old.length ≤ 8 := hol8
          clear hol8 hob0 he hg hi hgl2 hgl8
          go_wp2_with fail
          clear h0
          refine (slices_Clone_rows _ g _ (h2.mono (x1.trans x2)) (by omega)).mono ?_
          rintro e w3 ⟨v3, rfl, hB3, x3⟩
          go_wp2_with fail
          refine (sort_rows v3 g w2 w3 w2.heap.size hB3 (Nat.le_refl _) x3 (by omega)).mono ?_
          rintro e w4 ⟨ys, rfl, hB4, hpm, hpw, x4⟩
          have hys := rows_eq HGR.out hpm hpw
          rw [hys, ← hgs] at hB4
          have hG := Sl.of_at hB4.sl x4
          obtain ⟨Ag, cg, e3, _⟩ := hG.form
          subst e3
          have xw4 := (x1.trans x2).trans x4
          have HGS := hid hgs
          clear hB3 hB4 hpm hpw hys x1 x2 x3 x4 hgs
          obtain ⟨i1, hi1, hz3, hz4, hz5⟩ := info_parts infoInt
          have hmk := run_mk (P := Try.prog) 40 3 i1 _ [.int .i64 0] 8 Try.underlying40 hi1 hz3 rfl hz4 hz5 gs.length (by omega) (by omega)
          rw [flat_rep] at hmk
          obtain ⟨Z, hZ⟩ : ∃ Z, Z = (List.replicate gs.length (Value.int .i64 0)).toArray := ⟨_, rfl⟩
          rw [← hZ] at hmk
          have HIDS0 := hid (show OwnSl intO (w4.alloc (.cells Z 3)) (.slice (some ⟨w4.heap.size, 0, none⟩) gs.length gs.length) (List.replicate gs.length 0) [w4.heap.size] from by rw [hZ]; exact zeros_own2 w4 gs.length _ (by unfold maxLen; omega))
          clear hZ
          go_wp2_with fail
          have hids0 := HIDS0.out
          obtain ⟨wz, hwz⟩ : ∃ wz, wz = w4.alloc (.cells Z 3) := ⟨_, rfl⟩
          have xz : Ext w4 wz := by rw [hwz]; exact (Ext.refl _).alloc _
          obtain ⟨gI, hgI⟩ : ∃ gI, gI = w4.heap.size := ⟨_, rfl⟩
          have hgz : gI < wz.heap.size := by rw [hwz, hgI]; simp
          have hgw : w4.heap.size ≤ gI := by rw [hgI]; exact Nat.le_refl _
          rw [← hwz, ← hgI] at hids0 ⊢
          clear hwz hgI hmk hi1 hz3 hz4 hz5 HIDS0
          refine (impl_membersOf _ old _ (h.mono (xw4.trans xz)) (by omega)).mono ?_
          rintro e w5 ⟨v5, rfl, hM, x5⟩
          go_wp2_with fail
          refine (impl_overlapMatrix _ _ (mems old) gs _ hM (hG.mono (xz.trans x5)) (by rw [mems_len]; exact hbo) hgs8).mono ?_
          rintro e w6 ⟨v6, F6, rfl, o6, _, x6⟩
          go_wp2_with fail
          refine (impl_bestAssignment _ ((mems old).map (ovRow gs)) _ o6.sl (ovMat_ok (mems old) gs (by rw [mems_len]; exact hbo) hgs8).2).mono ?_
          rintro e w7 ⟨v7, F7, rfl, o7, n7, x7⟩
          obtain ⟨a, ha⟩ : ∃ a, a = asgFrom ((mems old).map (ovRow gs)) 0 := ⟨_, rfl⟩
          have haC : asC old g = a := by
            obtain ⟨q1, q2⟩ := ovMat_ok (mems old) gs (by rw [mems_len]; exact hbo) hgs8
            rw [ha]
            unfold asC gsC bestAsg
            rw [← HGS.out, q1, if_pos q2]
          have hal : a.length = old.length := by rw [← haC]; exact asC_len HE.out HGR.out
          have habd : ∀ x ∈ a, -1 ≤ x ∧ x < gs.length := by
            have := asC_bd HE.out HGR.out
            unfold gsC at this
            rwa [← HGS.out, haC] at this
          have HA := hid haC
          have x57 := (x5.trans x6).trans x7
          have hids7 := hids0.ext x57
          have hk7 : ∀ b ∈ F7, gI < b := fun b hb => by have := n7.2 b hb; have := x5.size; have := x6.size; omega
          have x47 := xz.trans x57
          have hg7 : gI < w7.heap.size := Nat.lt_of_lt_of_le hgz x57.size
          rw [← ha] at o7
          clear o6 hM n7 x5 x6 x7 ha haC hids0 xz x57 hgz
          obtain ⟨Aa, ca, ea, _⟩ := o7.form
          subst ea
          rw [show List.replicate gs.length (0 : Int) = idsAt old a gs.length 0 from (idsAt_zero old a gs.length).symm] at hids7
          have HABD := hid habd
          have HGM := hid hgm
          clear habd hgm
          go_wp2_with fail
          go_loopw [56] (fun i wr => ∃ j : Nat, j ≤ a.length ∧ i = .int .i64 j ∧ OwnSl intO wr (.slice (some ⟨gI, 0, none⟩) gs.length gs.length) (idsAt old a gs.length j) [gI] ∧ (∀ b, b < w7.heap.size → b ≠ gI → wr.heap[b]? = w7.heap[b]?) ∧ w7.heap.size ≤ wr.heap.size ∧ Ext w4 wr) (fun i _ => a.length - (intOf i).toNat)
          case atStart => exact ⟨0, Nat.zero_le _, rfl, hids7, fun _ _ _ => rfl, Nat.le_refl _, x47⟩
          case round =>
            clear hids7 x47
            obtain ⟨j, hj, rfl, hI, hkp, hsz, hx⟩ := hrel
            have hsA : Sl intR wr (.slice Aa a.length ca) a := (o7.keep fun b hb => hkp b (o7.lt b hb) (by have := hk7 b hb; omega)).sl
            by_cases hja : j < a.length
            · obtain ⟨ba, oa, eA, hIa, c1⟩ := hsA.int hja
              cases eA
              have hjo : j < old.length := by omega
              obtain ⟨bo, oo, A2, c2, eO, hIo, _, d0, _⟩ := (h.mono (xw4.trans hx)).ent hjo
              cases eO
              have hab := HABD.out a[j] (List.getElem_mem hja)
              have HKP := hid hkp
              have HSZ := hid hsz
              have HX := hid hx
              by_cases h0 : 0 ≤ a[j]
              · have HS := hid (idsAt_set (m := gs.length) hja hjo h0)
                obtain ⟨p, hp⟩ : ∃ p : Nat, a[j] = (p : Int) := ⟨a[j].toNat, by omega⟩
                have hpn : a[j].toNat = p := by omega
                have hpl : p < (idsAt old a gs.length j).length := by rw [idsAt_len]; omega
                obtain ⟨g9, off9, cap9, e9, _, hc9, hf9, hst9⟩ := hI.int_store (by simp) hpl
                injection e9 with e1 e2 e3
                injection e1 with e1
                injection e1 with e4 e5
                subst e4; subst e5
                rw [Nat.zero_add] at hc9 hf9 hst9
                have HST := hid (hst9 old[j].id hIo)
                have HPN := hid hpn
                have hpm : p < gs.length := by omega
                have HP := hid hp
                rw [hp] at c1
                clear hI hst9 hkp hsz hx e2 e3 hab hp hpn h0
                go_wp2
                go_roundw
                case rel => exact ⟨j + 1, by omega, by go_num, by rw [HS.out, HPN.out]; exact HST.out, fun b hb hne => (keep_setCell hne).trans (HKP.out b hb hne), by rw [World.size_setCell]; exact HSZ.out, HX.out.setCell hgw _⟩
                case measure => simp [intOf]; omega
              · have HS := hid (idsAt_skip (m := gs.length) hja h0 (old := old))
                have HI := hid hI
                clear hI hkp hsz hx hab
                go_wp2
                go_roundw
                case rel => exact ⟨j + 1, by omega, by go_num, by rw [HS.out]; exact HI.out, HKP.out, HSZ.out, HX.out⟩
                case measure => simp [intOf]; omega
            · have hje : j = a.length := by omega
              subst hje
              obtain ⟨wa, hwa⟩ : ∃ wa, wa = wr := ⟨_, rfl⟩
              rw [← hwa] at hI hsz hx ⊢
              obtain ⟨bs, hbs⟩ : ∃ bs, bs = wa.heap.size := ⟨_, rfl⟩
              have hgwa : gI < bs := by rw [hbs]; exact Nat.lt_of_lt_of_le hg7 hsz
              have hbsa : bs ≤ wa.heap.size := Nat.le_of_eq hbs
              have HAL := hid hal
              clear hwa hkp hsz hsA hj hja o7 hk7 hbs
              go_wp2_with fail
              clear hal
              go_loopw [2, 13, 74] (fun nx t i wr => ∃ (k : Nat) (F : List Nat) (l : List Int), k ≤ gs.length ∧ i = .int .i64 k ∧ nx = .int .i64 (outC old a gs n k).2 ∧ Bld entityO wr bs 42 t (outC old a gs n k).1 F ∧ OwnSl intO wr (.slice (some ⟨gI, 0, none⟩) gs.length gs.length) l [gI] ∧ l.length = gs.length ∧ (∀ q, k ≤ q → q < gs.length → l.getD q 0 = idTo old a q a.length) ∧ bs ≤ wr.heap.size ∧ Ext w4 wr) (fun _ _ i _ => gs.length - (intOf i).toNat)
              case atStart => exact ⟨0, [], _, Nat.zero_le _, rfl, rfl, Bld.nil _ _ _, hI, idsAt_len _ _ _ _, fun q _ hq => by rw [getD_at (by rw [idsAt_len]; exact hq)]; simp [idsAt], hbsa, hx⟩
              case round =>
                clear hI hx hbsa
                obtain ⟨k, F, l, hk, rfl, rfl, hB, hI, hll, hlq, hbsr, hx⟩ := hrel
                obtain ⟨hol, hon, hon2⟩ := outC_len old a gs n k
                by_cases hlt : k < gs.length
                · obtain ⟨bg, og, A9, c9, eG, hrow, cG0⟩ := hG.sl hlt
                  cases eG
                  have cG := hx.cell cG0
                  have HRW := hid (show ∀ W, Ext w4 W → Sl intR W (.slice A9 gs[k].length c9) gs[k] from fun W y => hrow.mono y)
                  have hnx : (0 : Int) ≤ (outC old a gs n k).2 ∧ (outC old a gs n k).2 ≤ 9999 := by omega
                  have HST := hid (show outC old a gs n (k + 1) = stepC old a gs (outC old a gs n k) k from rfl)
                  have hlk : l.getD k 0 = idTo old a k a.length := hlq k (Nat.le_refl _) hlt
                  have hkl : k < l.length := by omega
                  rw [getD_at hkl] at hlk
                  have hbd := idTo_bd (by omega : (0 : Int) ≤ 0 ∧ (0 : Int) ≤ 9999) (fun e he => by have := hob e he; omega) a k a.length
                  rw [← hlk] at hbd
                  have HGK := hid (getD_at (d := []) hlt)
                  obtain ⟨oc, hoc⟩ : ∃ oc, oc = (outC old a gs n k) := ⟨_, rfl⟩
                  rw [← hoc] at hnx hol hB HST ⊢
                  have HG8 := hid (show gs[k].length ≤ 1048576 from by have := HGM.out gs[k] (List.getElem_mem hlt); omega)
                  have HL2 := hid (show oc.1.length + 1 ≤ 1099511627776 by omega)
                  have HW4 := hid (Nat.le_trans hgw (Nat.le_of_lt hgwa))
                  have HGI := hid hgwa
                  obtain ⟨g9, off9, cap9, e9, _, hc9, hf9, hst9⟩ := hI.int_store (by simp) hkl
                  injection e9 with e1 e2 e3
                  injection e1 with e1
                  injection e1 with e4 e5
                  subst e4; subst e5
                  rw [Nat.zero_add] at hc9 hf9 hst9
                  have HLQ := hid hlq
                  have HLL := hid hll
                  have hdd : idTo old a k a.length = l[k] := hlk.symm
                  obtain ⟨d, hd⟩ : ∃ d, d = l[k] := ⟨_, rfl⟩
                  rw [← hd] at hc9 hbd hdd
                  have HIx := hid hI
                  have HBx := hid hB
                  have HXx := hid hx
                  have HBSx := hid hbsr
                  clear hon hon2 hoc e2 e3 hlk hlq hll hd hI hB hx hbsr hrow cG0
                  by_cases hz : d = 0
                  · have HT := hid (show stepC old a gs oc k = (oc.1 ++ [⟨oc.2, gs[k]⟩], oc.2 + 1) from by unfold stepC; rw [hdd, if_pos hz, HGK.out])
                    have e1 : (d == 0) = true := by simp [hz]
                    have HIK := hid (show I64 oc.2 by unfold I64; omega)
                    have HST9 := hid (hst9 oc.2 HIK.out)
                    have HL9 := hid (show (l.set k oc.2).length = gs.length ∧ ∀ q, k + 1 ≤ q → q < gs.length → (l.set k oc.2).getD q 0 = idTo old a q a.length from ⟨by rw [List.length_set]; exact HLL.out, fun q h1 h2 => by rw [List.getD_eq_getElem?_getD, List.getElem?_set_ne (by omega), ← List.getD_eq_getElem?_getD]; exact HLQ.out q (by omega) h2⟩)
                    have HC9 := hid (show (wr.setCell ⟨gI, k, none⟩ (.int .i64 oc.2)).cell? ⟨gI, k, none⟩ = some (.int .i64 oc.2) from by
                      obtain ⟨b7, o7, e7, _, hc7⟩ := HST9.out.sl.int (i := k) (by rw [List.length_set]; exact hkl)
                      injection e7 with e7
                      injection e7 with e7 e8 _
                      subst e7; subst e8
                      rw [Nat.zero_add] at hc7
                      simpa using hc7)
                    clear hst9 hdd hz
                    go_wp2_with fail
                    clear hc9 hf9
                    obtain ⟨wq, hwq⟩ : ∃ wq, wq = wr.setCell ⟨gI, k, none⟩ (.int .i64 oc.2) := ⟨_, rfl⟩
                    have HX4 := hid (show Ext w4 wq by rw [hwq]; exact HXx.out.setCell hgw _)
                    have HB := hid (show Bld entityO wq bs 42 u13 oc.1 F by rw [hwq]; exact HBx.out.keep fun b hb _ => keep_setCell (by show b ≠ gI; omega))
                    have HBS := hid (show bs ≤ wq.heap.size by rw [hwq, World.size_setCell]; exact HBSx.out)
                    have HIDS := hid (show OwnSl intO wq (.slice (some ⟨gI, 0, none⟩) gs.length gs.length) (l.set k oc.2) [gI] by rw [hwq]; exact HST9.out)
                    have HBQ := hid (show ∀ W, Ext wq W → W.cell? ⟨gI, k, none⟩ = some (.int .i64 oc.2) from fun W y => y.cell (by rw [hwq]; exact HC9.out))
                    rw [← hwq]
                    clear hwq
                    go_region_held3 (fun w' => w'.cell? ⟨gI, k, none⟩ = some (.int .i64 oc.2)) (first | (refine HBQ.out _ ?_; ((repeat (first | with_reducible exact Ext.refl _ | with_reducible assumption | with_reducible refine Ext.drew ?_ | with_reducible refine Ext.alloc ?_ _ | with_reducible refine Ext.trans ?_ (by with_reducible assumption))); done)) | (refine cell_same (k9 gI (by rw [World.size_alloc]; have y8 : wq.heap.size ≤ w8.heap.size := x8.size; have g8 := HGI.out; have s8 := HBS.out; omega) (fun e => by have y9 := (HB.out.lt.2 gI e).2; have g8 := HGI.out; omega)) (HBQ.out _ ?_); ((repeat (first | with_reducible exact Ext.refl _ | with_reducible assumption | with_reducible refine Ext.drew ?_ | with_reducible refine Ext.alloc ?_ _ | with_reducible refine Ext.trans ?_ (by with_reducible assumption))); done))) (first | (go_at_call 45; refine (slices_Clone_ints _ gs[k] _ ?hr HG8.out).mono ?_; (case hr => exact HRW.out _ (HX4.out.trans (by repeat (first | with_reducible exact Ext.refl _ | with_reducible assumption | with_reducible refine Ext.drew ?_ | with_reducible refine Ext.alloc ?_ _ | with_reducible refine Ext.trans ?_ (by with_reducible assumption))))); rintro e w8 ⟨v8, F8, rfl, o8, n8, x8⟩; obtain ⟨A8, c8, e8, _⟩ := o8.form; subst e8) | (refine step_app1k (R := entityO) elemEnt (by decide) rfl _ _ rfl (HB.out.ext (by repeat (first | with_reducible exact Ext.refl _ | with_reducible assumption | with_reducible refine Ext.drew ?_ | with_reducible refine Ext.alloc ?_ _ | with_reducible refine Ext.trans ?_ (by with_reducible assumption)))) rfl w8.heap.size 1 rfl (heap_alloc_new w8 _) (one_ent _ _ _ _) (y := ⟨oc.2, gs[k]⟩) (F := F) (G := F8) ⟨_, rfl, HIK.out, o8.ext ((Ext.refl w8).alloc _)⟩ (HB.out.fresh n8 HBS.out) HL2.out (by decide) (Nat.le_trans HBS.out (by rw [World.size_alloc]; exact Nat.le_succ_of_le x8.size)) (w0 := w4) HW4.out (HX4.out.trans (by repeat (first | with_reducible exact Ext.refl _ | with_reducible assumption | with_reducible refine Ext.drew ?_ | with_reducible refine Ext.alloc ?_ _ | with_reducible refine Ext.trans ?_ (by with_reducible assumption)))) ?_; intro v9 w9 hB9 x9 k9))
                    all_goals
                      have hI9 : OwnSl intO w9 (.slice (some ⟨gI, 0, none⟩) gs.length gs.length) (l.set k oc.2) [gI] := HIDS.out.keep (fun b hb => by
                        rw [List.mem_singleton] at hb
                        subst hb
                        have y8 : wq.heap.size ≤ w8.heap.size := x8.size
                        have g8 := HGI.out
                        have s8 := HBS.out
                        have z8 : w8.heap[b]? = wq.heap[b]? := x8.block (by show b < wq.heap.size; omega)
                        exact (k9 b (by rw [World.size_alloc]; omega) (fun e => by have := (HB.out.lt.2 b e).2; omega)).trans ((((Ext.refl w8).alloc _).block (by omega)).trans z8))
                      have HI9 := hid hI9
                      have HB9 := hid hB9
                      have HX9 := hid x9
                      have HBZ := hid (hB9.size_le (by simp))
                      clear hI9 hB9 x9 k9 x8 n8 o8
                      go_wp2
                      go_roundw
                      case rel => exact ⟨k + 1, F ++ F8, l.set k oc.2, by omega, by go_num, by rw [HST.out, HT.out], by rw [HST.out, HT.out]; exact HB9.out, HI9.out, HL9.out.1, HL9.out.2, HBZ.out, HX9.out⟩
                      case measure => simp [intOf]; omega
                  · have HT := hid (show stepC old a gs oc k = (oc.1 ++ [⟨d, gs[k]⟩], oc.2) from by unfold stepC; rw [hdd, if_neg hz, HGK.out])
                    have e1 : (d == 0) = false := by simp [hz]
                    have HIK := hid (show I64 d by unfold I64; omega)
                    have HL9 := hid (show l.length = gs.length ∧ ∀ q, k + 1 ≤ q → q < gs.length → l.getD q 0 = idTo old a q a.length from ⟨HLL.out, fun q h1 h2 => HLQ.out q (by omega) h2⟩)
                    clear hst9 hdd hz
                    go_wp2_with fail
                    obtain ⟨wq, hwq⟩ : ∃ wq, wq = wr := ⟨_, rfl⟩
                    have HX4 := hid (show Ext w4 wq by rw [hwq]; exact HXx.out)
                    have HB := hid (show Bld entityO wq bs 42 u13 oc.1 F by rw [hwq]; exact HBx.out)
                    have HBS := hid (show bs ≤ wq.heap.size by rw [hwq]; exact HBSx.out)
                    have HIDS := hid (show OwnSl intO wq (.slice (some ⟨gI, 0, none⟩) gs.length gs.length) l [gI] by rw [hwq]; exact HIx.out)
                    have HBQ := hid (show ∀ W, Ext wq W → W.cell? ⟨gI, k, none⟩ = some (.int .i64 d) from fun W y => y.cell (by rw [hwq]; exact hc9))
                    rw [← hwq]
                    clear hwq hc9 hf9
                    go_region_held3 (fun w' => w'.cell? ⟨gI, k, none⟩ = some (.int .i64 d)) (first | (refine HBQ.out _ ?_; ((repeat (first | with_reducible exact Ext.refl _ | with_reducible assumption | with_reducible refine Ext.drew ?_ | with_reducible refine Ext.alloc ?_ _ | with_reducible refine Ext.trans ?_ (by with_reducible assumption))); done)) | (refine cell_same (k9 gI (by rw [World.size_alloc]; have y8 : wq.heap.size ≤ w8.heap.size := x8.size; have g8 := HGI.out; have s8 := HBS.out; omega) (fun e => by have y9 := (HB.out.lt.2 gI e).2; have g8 := HGI.out; omega)) (HBQ.out _ ?_); ((repeat (first | with_reducible exact Ext.refl _ | with_reducible assumption | with_reducible refine Ext.drew ?_ | with_reducible refine Ext.alloc ?_ _ | with_reducible refine Ext.trans ?_ (by with_reducible assumption))); done))) (first | (go_at_call 45; refine (slices_Clone_ints _ gs[k] _ ?hr HG8.out).mono ?_; (case hr => exact HRW.out _ (HX4.out.trans (by repeat (first | with_reducible exact Ext.refl _ | with_reducible assumption | with_reducible refine Ext.drew ?_ | with_reducible refine Ext.alloc ?_ _ | with_reducible refine Ext.trans ?_ (by with_reducible assumption))))); rintro e w8 ⟨v8, F8, rfl, o8, n8, x8⟩; obtain ⟨A8, c8, e8, _⟩ := o8.form; subst e8) | (refine step_app1k (R := entityO) elemEnt (by decide) rfl _ _ rfl (HB.out.ext (by repeat (first | with_reducible exact Ext.refl _ | with_reducible assumption | with_reducible refine Ext.drew ?_ | with_reducible refine Ext.alloc ?_ _ | with_reducible refine Ext.trans ?_ (by with_reducible assumption)))) rfl w8.heap.size 1 rfl (heap_alloc_new w8 _) (one_ent _ _ _ _) (y := ⟨d, gs[k]⟩) (F := F) (G := F8) ⟨_, rfl, HIK.out, o8.ext ((Ext.refl w8).alloc _)⟩ (HB.out.fresh n8 HBS.out) HL2.out (by decide) (Nat.le_trans HBS.out (by rw [World.size_alloc]; exact Nat.le_succ_of_le x8.size)) (w0 := w4) HW4.out (HX4.out.trans (by repeat (first | with_reducible exact Ext.refl _ | with_reducible assumption | with_reducible refine Ext.drew ?_ | with_reducible refine Ext.alloc ?_ _ | with_reducible refine Ext.trans ?_ (by with_reducible assumption)))) ?_; intro v9 w9 hB9 x9 k9))
                    all_goals
                      have hI9 : OwnSl intO w9 (.slice (some ⟨gI, 0, none⟩) gs.length gs.length) (l) [gI] := HIDS.out.keep (fun b hb => by
                        rw [List.mem_singleton] at hb
                        subst hb
                        have y8 : wq.heap.size ≤ w8.heap.size := x8.size
                        have g8 := HGI.out
                        have s8 := HBS.out
                        have z8 : w8.heap[b]? = wq.heap[b]? := x8.block (by show b < wq.heap.size; omega)
                        exact (k9 b (by rw [World.size_alloc]; omega) (fun e => by have := (HB.out.lt.2 b e).2; omega)).trans ((((Ext.refl w8).alloc _).block (by omega)).trans z8))
                      have HI9 := hid hI9
                      have HB9 := hid hB9
                      have HX9 := hid x9
                      have HBZ := hid (hB9.size_le (by simp))
                      clear hI9 hB9 x9 k9 x8 n8 o8
                      go_wp2
                      go_roundw
                      case rel => exact ⟨k + 1, F ++ F8, l, by omega, by go_num, by rw [HST.out, HT.out], by rw [HST.out, HT.out]; exact HB9.out, HI9.out, HL9.out.1, HL9.out.2, HBZ.out, HX9.out⟩
                      case measure => simp [intOf]; omega
                · have hke : k = gs.length := by omega
                  subst hke
                  have HY := hid (carry_yes HC.out)
                  have hlo : (outC old a gs n gs.length).1.length ≤ 1048576 := by omega
                  clear hon hon2 hol hI hlq
                  go_wp2_with fail
                  refine (sort_ents _ _ F _ bs hB hlo).mono ?_
                  rintro e wF ⟨ys, F2, rfl, hB9, hp9, hs9, hx9⟩
                  have hy := ents_eq HC.out gs (Nat.le_of_eq HAL.out) hp9 hs9
                  rw [hy] at hB9
                  obtain ⟨F3, o3, n3, m3⟩ := hB9.done
                  have HO3 := hid o3
                  have HN3 := hid (show NewF w F3 from ⟨n3, fun b hb => by have := m3 b hb; have := xw4.size; omega⟩)
                  have HXF := hid (xw4.trans (hx9 w4 (by omega) hx))
                  clear hB9 hB hp9 hs9 hx9 hy o3 n3 m3 hx
                  go_wp2
                  refine bodyPost_ret (v := .tuple #[u13, .int .i64 (outC old a gs n gs.length).2, .bool true]) (by simp [results, Try.results11, go_sem]) rfl ?_
                  rw [HY.out, HA.out, show gsC g = gs from HGS.out.symm]
                  exact ⟨_, F3, rfl, HO3.out, HN3.out, HXF.out⟩

end Go.Proofs.Ytfcbapaojoecgab
