/-
  THE LAW'S WALK: FnSplit.
-/
import Derived.Test.YtmembjjgkideeaaMgEndFnSpl0
import Derived.Test.YtmembjjgkideeaaMgEndSpl20
import Derived.Test.YtmembjjgkideeaaMgEndSpl19
import Derived.Test.YtmembjjgkideeaaMgEndFnSpl3
import Derived.Test.YtmembjjgkideeaaMgEndSpl0
import Derived.Deep.RegionHeld3

namespace Go.Proofs.Ytmembjjgkideeaa
open Go.RowKit

theorem con_one : ∀ (w : World) (cs : List Value) (x : Constraint), constraintR.rd w cs x → ∀ u ∈ cs, u.oneCell' = true := fun w cs x h u hu => by
  rw [h.1] at hu
  simp only [Constraint.cells, List.mem_cons, List.not_mem_nil, or_false] at hu
  rcases hu with rfl | rfl | rfl <;> rfl
theorem Bld.empQ {α : Type} {R : RepO α} {W : World} {base g : Nat} {e : TypeId} (hb : base ≤ g) (h : W.heap[g]? = some (.cells #[] e (0, 0))) : Bld R W base e (.slice (some ⟨g, 0, none⟩) 0 0) ([] : List α) [] :=
  ⟨[], ⟨by simp, .inr ⟨g, 0, #[], rfl, hb, h, Nat.le_refl _, Nat.zero_le _, by simp, by simp⟩⟩, .nil, fun _ _ h => (by cases h), List.nodup_nil, fun _ h => by cases h⟩
theorem Sl.conAt {w1 w : World} {v : Value} {xs : List Constraint} (h : Sl (atO constraintR w1).toRep w v xs) : Sl constraintR w v xs := by
  obtain ⟨A, cap, rfl, hm, hi⟩ := h
  refine ⟨A, cap, rfl, hm, fun i hlt => ?_⟩
  obtain ⟨b, off, cs, rfl, hr, hc⟩ := hi i hlt
  exact ⟨b, off, cs, rfl, hr, hc⟩
theorem Bld.conSl {w1 w : World} {base : Nat} {e : TypeId} {v : Value} {xs : List Constraint} (h : Bld (atO constraintR w1) w base e v xs []) : Sl constraintR w v xs := h.sl.conAt
theorem Sl.lit_ver {W : World} {g : Nat} {T : TypeId} {x : Verdict} (h : W.heap[g]? = some (.cells #[.int .i64 x.a, .int .i64 x.b, .bool x.same, .int .i64 x.time] T (0, 0))) (hok : x.ok) : Sl verdictR W (.slice (some ⟨g, 0, none⟩) 1 1) [x] := by
  refine ⟨_, 1, rfl, ⟨Nat.le_refl _, by unfold maxLen; decide⟩, fun i hi => ⟨g, 0, x.cells, rfl, ?_, fun q hq => ?_⟩⟩
  · have : i = 0 := by simpa using hi
    subst this
    exact ⟨rfl, hok⟩
  · have : i = 0 := by simpa using hi
    subst this
    rw [cell_of_row W g _ _ T (0, 0) h]
    simp [Verdict.cells]

set_option maxHeartbeats 8000000 in
set_option maxRecDepth 20000 in
theorem law_FnSplit (v : Value) (bs : List Int) (w : World) (h : Sl u8R w v bs) :
    Calls Try.prog 3 #[v] w fun e w2 => e = .returned (.bool true) ∧ Ext w w2 := by
  by_cases hbig : 1048576 < bs.length
  · go_enter Try.func3, Try.ntmps3
    go_wp2_with fail
    refine (laws_big _ bs w h).mono ?_
    rintro e w2 ⟨rfl, rfl⟩
    rw [decide_eq_true hbig]
    go_wp2
    go_ret
    exact ⟨rfl, Ext.refl _⟩
  · go_enter Try.func3, Try.ntmps3
    go_wp2_with fail
    refine (laws_big _ bs w h).mono ?_
    rintro e w2 ⟨rfl, rfl⟩
    rw [decide_eq_false hbig]
    clear hbig
    go_wp2_with fail
    refine (spec_DrawSplitVerdicts w _ bs h).mono ?_
    rintro e w2 ⟨v1, xs, rfl, hs0, hl, x2⟩
    clear h
    go_wp2_with fail
    refine (impl_SplitVerdicts v1 xs w2 hs0 (by omega)).mono ?_
    rintro e w3 ⟨va, vb, Fa, Fb, rfl, oa, ob, _, x3⟩
    go_wp2_with fail
    refine (spec_SplitVerdicts v1 xs w3 (hs0.mono x3) (by omega)).mono ?_
    rintro e w4 ⟨vc, vd, Fc, Fd, rfl, oc, od, _, x4⟩
    rw [splitR_eq] at oc od
    go_wp2_with fail
    refine (spec_CurrentVerdicts v1 xs w4 (hs0.mono (x3.trans x4))).mono ?_
    rintro e w5 ⟨ve, Fe, rfl, oe, _, x5⟩
    have hlen := (splitFacts2 xs).2.1
    have hc8 := (splitFacts2 xs).2.2
    have hrs : ∀ v ∈ (splitV xs).2, v.same = true := fun v hv => ((split_facts xs).2.1 v hv).2
    have hrok : ∀ v ∈ (splitV xs).2, v.ok := fun v hv => okV_verok ((split_facts xs).2.2.2 v (List.mem_append_right _ hv))
    have HLK := hid (fun (h1 : 1 ≤ (itemsS (curV xs)).length) (h8 : (itemsS (curV xs)).length ≤ 8) => law_kept (xs := xs) h1 h8)
    have HLR := hid (fun (h1 : 1 ≤ (itemsS (curV xs)).length) (h8 : (itemsS (curV xs)).length ≤ 8) (v : Verdict) (hv : v ∈ (splitV xs).2) => law_refused (xs := xs) h1 h8 hv)
    have hI64 := (itemsS_facts (curV xs))
    have hcok := (curV_facts xs).2.1
    obtain ⟨KP, hKP⟩ : ∃ k, k = (splitV xs).1 := ⟨_, rfl⟩
    obtain ⟨RF, hRF⟩ : ∃ k, k = (splitV xs).2 := ⟨_, rfl⟩
    obtain ⟨cur, hcur⟩ : ∃ k, k = curV xs := ⟨_, rfl⟩
    rw [← hKP] at oa oc HLK HLR hlen
    rw [← hRF] at ob od HLR hlen hrs hrok
    rw [← hcur] at oe HLK HLR hlen hc8 hI64 hcok
    have HRS := hid hrs
    have HROK := hid hrok
    have HCOK := hid hcok
    have sa := (oa.sl.mono x4).mono x5
    have sb := (ob.sl.mono x4).mono x5
    have sc := oc.sl.mono x5
    have sd := od.sl.mono x5
    have se := oe.sl
    obtain ⟨AK, cK, e1, _⟩ := sa.form
    obtain ⟨AR, cR, e2, _⟩ := sb.form
    obtain ⟨AK2, cK2, e3, _⟩ := sc.form
    obtain ⟨AR2, cR2, e4, _⟩ := sd.form
    obtain ⟨AC, cC, e5, _⟩ := se.form
    subst e1; subst e2; subst e3; subst e4; subst e5
    have HS := hid (show ∀ W, Ext w5 W → Sl verdictR W (.slice AK KP.length cK) KP ∧ Sl verdictR W (.slice AR RF.length cR) RF ∧ Sl verdictR W (.slice AK2 KP.length cK2) KP ∧ Sl verdictR W (.slice AR2 RF.length cR2) RF ∧ Sl verdictR W (.slice AC cur.length cC) cur from fun W y => ⟨sa.mono y, sb.mono y, sc.mono y, sd.mono y, se.mono y⟩)
    have HX := hid (x2.trans (x3.trans (x4.trans x5)))
    have hlenI : ((KP.length : Int) + (RF.length : Int)) = (cur.length : Int) := by rw [← hlen, List.length_append]; omega
    have g1 : ((KP.length : Int) != (KP.length : Int)) = false := by simp
    have g2 : ((RF.length : Int) != (RF.length : Int)) = false := by simp
    have hk8 : KP.length ≤ 8 := by rw [List.length_append] at hlen; omega
    have hr8 : RF.length ≤ 8 := by rw [List.length_append] at hlen; omega
    have hb0 : Bld intO (w5.alloc (.cells #[] 3)) w5.heap.size 3 (.slice (some ⟨w5.heap.size, 0, none⟩) 0 0) [] [] := Bld.lit w5 (Nat.le_refl _) _
    have x6 : Ext w5 (w5.alloc (.cells #[] 3)) := (Ext.refl _).alloc _
    clear oa ob oc od oe sa sb sc sd se hs0 x2 x3 x4 x5 hKP hRF hlen hrs hrok hcur hcok hI64
    
    go_wp2_with fail
    go_loopw [9, 10] (fun t i wr => ∃ k : Nat, k ≤ cur.length ∧ i = .int .i64 k ∧ Bld intO wr w5.heap.size 3 t (itemsF (cur.take k)) [] ∧ Ext w5 wr) (fun _ i _ => cur.length - (intOf i).toNat)
    case atStart => exact ⟨0, Nat.zero_le _, rfl, hb0, x6⟩
    case round =>
      clear hb0 x6
      obtain ⟨k, hk, rfl, hB, hx⟩ := hrel
      by_cases hlt : k < cur.length
      · have hif := (itemsF_facts cur k hk).2.1
        
        have HST := hid (itemsF_step hlt)
        obtain ⟨I, hI⟩ : ∃ I, I = itemsF (cur.take k) := ⟨_, rfl⟩
        rw [← hI] at HST hB hif
        obtain ⟨b, off, eA, hokk, c05, c15, _, _⟩ := (HS.out _ (Ext.refl w5)).2.2.2.2.verdict hlt
        subst eA
        have HCE := hid (show ∀ W, Ext w5 W → W.cell? ⟨b, off + k * 4, none⟩ = some (.int .i64 cur[k].a) ∧ W.cell? ⟨b, off + k * 4 + 1, none⟩ = some (.int .i64 cur[k].b) from fun W y => ⟨y.cell c05, y.cell c15⟩)
        obtain ⟨c0, c1⟩ := HCE.out _ hx
        have HOKK := hid hokk
        have HHA := hid (fun (v : Value) (W : World) (h : Sl intR W v I) => laws_has v I cur[k].a W h)
        have HHB := hid (fun (v : Value) (W : World) (h : Sl intR W v (addI I cur[k].a)) => laws_has v (addI I cur[k].a) cur[k].b W h)
        have HL1 := hid (show I.length + 1 ≤ 1099511627776 by omega)
        have HL2 := hid (show (addI I cur[k].a).length + 1 ≤ 1099511627776 by have := addI_len I cur[k].a; omega)
        clear hI hokk c05 c15 hif
        cases ha : hasI cur[k].a I with
        | true =>
          have e1 : addI I cur[k].a = I := by unfold addI; rw [if_pos ha]
          rw [e1] at HHB HST HL2
          rw [ha] at HHA
          have hsl := hB.sl
          cases hb : hasI cur[k].b I with
          | true =>
            have HE2 := hid (show addI I cur[k].b = I from by unfold addI; rw [if_pos hb])
            rw [hb] at HHB
            clear ha hb e1
            go_wp2_with fail
            refine (HHA.out _ _ hsl).mono ?_
            rintro e w7 ⟨rfl, rfl⟩
            go_wp2_with fail
            refine (HHB.out _ _ hsl).mono ?_
            rintro e w7 ⟨rfl, rfl⟩
            go_wp2_with fail
            go_roundw
            case rel => exact ⟨k + 1, by omega, by go_num, by rw [HST.out, HE2.out]; exact hB, hx⟩
            case measure => simp [intOf]; omega
          | false =>
            have HE2 := hid (show addI I cur[k].b = I ++ [cur[k].b] from by unfold addI; rw [if_neg (by rw [hb]; decide)])
            rw [hb] at HHB
            clear ha hb e1
            go_wp2_with fail
            refine (HHA.out _ _ hsl).mono ?_
            rintro e w7 ⟨rfl, rfl⟩
            go_wp2_with fail
            refine (HHB.out _ _ hsl).mono ?_
            rintro e w7 ⟨rfl, rfl⟩
            go_wp2_with (at_builtin; refine wpList_app1 (R := intO) elemInt (by decide) rfl _ _ rfl hB rfl _ 1 rfl (by simp) (by simp [Value.oneCell']) (y := cur[k].b) ⟨⟨rfl, HOKK.out.2.1⟩, rfl⟩ fresh_nil HL2.out (by decide) (hx).size ?_; intro v8 w8 hB8 hE8)
            go_roundw
            case rel => exact ⟨k + 1, by omega, by go_num, by rw [HST.out, HE2.out]; exact hB8, hE8 w5 (Nat.le_refl _) hx⟩
            case measure => simp [intOf]; omega
        | false =>
          have e1 : addI I cur[k].a = I ++ [cur[k].a] := by unfold addI; rw [if_neg (by rw [ha]; decide)]
          rw [e1] at HHB HST HL2
          rw [ha] at HHA
          have hsl := hB.sl
          cases hb : hasI cur[k].b (I ++ [cur[k].a]) with
          | true =>
            have HE2 := hid (show addI (I ++ [cur[k].a]) cur[k].b = I ++ [cur[k].a] from by unfold addI; rw [if_pos hb])
            rw [hb] at HHB
            clear ha hb e1
            go_wp2_with fail
            refine (HHA.out _ _ hsl).mono ?_
            rintro e w7 ⟨rfl, rfl⟩
            go_wp2_with (at_builtin; refine wpList_app1 (R := intO) elemInt (by decide) rfl _ _ rfl hB rfl _ 1 rfl (by simp) (by simp [Value.oneCell']) (y := cur[k].a) ⟨⟨rfl, HOKK.out.1⟩, rfl⟩ fresh_nil HL1.out (by decide) hx.size ?_; intro v9 w9 hB9 hE9; have x9 := hE9 w5 (Nat.le_refl _) hx; have c1' := (HCE.out _ x9).2)
            refine (HHB.out _ _ hB9.sl).mono ?_
            rintro e w7 ⟨rfl, rfl⟩
            go_wp2_with fail
            go_roundw
            case rel => exact ⟨k + 1, by omega, by go_num, by rw [HST.out, HE2.out]; exact hB9, x9⟩
            case measure => simp [intOf]; omega
          | false =>
            have HE2 := hid (show addI (I ++ [cur[k].a]) cur[k].b = I ++ [cur[k].a] ++ [cur[k].b] from by unfold addI; rw [if_neg (by rw [hb]; decide)])
            rw [hb] at HHB
            clear ha hb e1
            go_wp2_with fail
            refine (HHA.out _ _ hsl).mono ?_
            rintro e w7 ⟨rfl, rfl⟩
            go_wp2_with (at_builtin; refine wpList_app1 (R := intO) elemInt (by decide) rfl _ _ rfl hB rfl _ 1 rfl (by simp) (by simp [Value.oneCell']) (y := cur[k].a) ⟨⟨rfl, HOKK.out.1⟩, rfl⟩ fresh_nil HL1.out (by decide) hx.size ?_; intro v9 w9 hB9 hE9; have x9 := hE9 w5 (Nat.le_refl _) hx; have c1' := (HCE.out _ x9).2)
            refine (HHB.out _ _ hB9.sl).mono ?_
            rintro e w7 ⟨rfl, rfl⟩
            go_wp2_with (at_builtin; refine wpList_app1 (R := intO) elemInt (by decide) rfl _ _ rfl hB9 rfl _ 1 rfl (by simp) (by simp [Value.oneCell']) (y := cur[k].b) ⟨⟨rfl, HOKK.out.2.1⟩, rfl⟩ fresh_nil HL2.out (by decide) (x9).size ?_; intro v8 w8 hB8 hE8)
            go_roundw
            case rel => exact ⟨k + 1, by omega, by go_num, by rw [HST.out, HE2.out]; exact hB8, hE8 w5 (Nat.le_refl _) x9⟩
            case measure => simp [intOf]; omega
      · have hkc : k = cur.length := by omega
        subst hkc
        have hif := (itemsF_facts cur cur.length (Nat.le_refl _)).2.1
        rw [List.take_length] at hB hif
        obtain ⟨IT, hIT⟩ : ∃ I, I = itemsF cur := ⟨_, rfl⟩
        have HIS := hid (show itemsS cur = sortK (fun x : Int => x) IT from by rw [hIT]; rfl)
        rw [← hIT] at hB hif
        obtain ⟨F, o9, hN, hFb⟩ := hB.done
        obtain ⟨A9, c9, e9, _⟩ := o9.form
        subst e9
        have HN := hid hN
        have HFB := hid hFb
        clear hB hIT hN hFb
        go_wp2_with fail
        go_loopw [11] (fun i wr => ∃ k : Nat, k ≤ IT.length ∧ i = .int .i64 k ∧ OwnSl intO wr (.slice A9 IT.length c9) (sortK (fun x : Int => x) (IT.take k) ++ IT.drop k) F ∧ Ext w5 wr) (fun i _ => IT.length - (intOf i).toNat)
        case atStart => exact ⟨0, Nat.zero_le _, rfl, o9, hx⟩
        case round =>
          clear o9 hx
          obtain ⟨k, hk, rfl, hO, hx⟩ := hrel
          by_cases hlt : k < IT.length
          · obtain ⟨S, hS⟩ : ∃ S, S = sortK (fun x : Int => x) (IT.take k) := ⟨_, rfl⟩
            obtain ⟨R, hR⟩ : ∃ R, R = IT.drop (k + 1) := ⟨_, rfl⟩
            obtain ⟨vv, hv⟩ : ∃ v, v = IT[k] := ⟨_, rfl⟩
            have hSl : S.length = k := by rw [hS, sortK_len, List.length_take]; omega
            have hRl : k + 1 + R.length = IT.length := by rw [hR, List.length_drop]; omega
            have hstart : sortK (fun x : Int => x) (IT.take k) ++ IT.drop k = S.take k ++ vv :: (S.drop k ++ R) := by
              rw [← hS, List.drop_eq_getElem_cons hlt, ← hR, ← hv, List.take_of_length_le (by omega), List.drop_of_length_le (by omega)]
              rfl
            have HST := hid (show sortK (fun x : Int => x) (IT.take (k + 1)) = insK (fun x : Int => x) S vv from by
              rw [List.take_succ_eq_append_getElem hlt, hS, hv]
              unfold sortK
              rw [List.foldl_append]
              rfl)
            have HR := hid (show IT.drop (k + 1) = R from hR.symm)
            rw [hstart] at hO
            clear hS hR hv hstart
            go_wp2_with fail
            go_loopw [12] (fun j wi => ∃ q : Nat, q ≤ k ∧ j = .int .i64 q ∧ OwnSl intO wi (.slice A9 IT.length c9) (S.take q ++ vv :: (S.drop q ++ R)) F ∧ (∀ x ∈ S.drop q, vv < x) ∧ Ext w5 wi) (fun j _ => (intOf j).toNat)
            case atStart => exact ⟨k, Nat.le_refl _, rfl, hO, (fun x hx => by rw [List.drop_of_length_le (by omega)] at hx; cases hx), hx⟩
            case round =>
              clear hO hx
              obtain ⟨q, hq, rfl, hO, hal, hx⟩ := hrel
              have HAL := hid hal
              clear hal
              have hLl : (S.take q ++ vv :: (S.drop q ++ R)).length = IT.length := by simp only [List.length_append, List.length_take, List.length_cons, List.length_drop]; omega
              by_cases hq0 : 0 < q
              · obtain ⟨p, rfl⟩ : ∃ p, q = p + 1 := ⟨q - 1, by omega⟩
                have hpS : p < S.length := by omega
                obtain ⟨y, hy⟩ : ∃ y, y = S[p] := ⟨_, rfl⟩
                have htk : S.take (p + 1) = S.take p ++ [y] := by rw [List.take_succ_eq_append_getElem hpS, hy]
                have hdr : S.drop p = y :: S.drop (p + 1) := by rw [List.drop_eq_getElem_cons hpS, hy]
                have HY := hid hy
                clear hy
                obtain ⟨L, hL⟩ : ∃ L, L = S.take (p + 1) ++ vv :: (S.drop (p + 1) ++ R) := ⟨_, rfl⟩
                have hLe : L = S.take p ++ y :: vv :: (S.drop (p + 1) ++ R) := by rw [hL, htk]; simp
                have hpl : (S.take p).length = p := by rw [List.length_take]; omega
                rw [← hL] at hO hLl
                have h1 : p < L.length := by omega
                have h2 : p + 1 < L.length := by omega
                have g1 : L[p] = y := by
                  have : L[p]? = some y := by rw [hLe, List.getElem?_append_right (by omega), hpl, Nat.sub_self]; rfl
                  rw [List.getElem?_eq_getElem h1] at this
                  exact Option.some.inj this
                have g2 : L[p + 1] = vv := by
                  have : L[p + 1]? = some vv := by rw [hLe, List.getElem?_append_right (by omega), hpl, show p + 1 - p = 1 by omega]; rfl
                  rw [List.getElem?_eq_getElem h2] at this
                  exact Option.some.inj this
                have hsl := hO.sl
                rw [← hLl] at hsl
                obtain ⟨b9, o9, eA, hIy, d1⟩ := hsl.int h1
                obtain ⟨b8, o8, eB, hIv, d2⟩ := hsl.int h2
                subst eA
                injection eB with eB
                injection eB with eB eC _
                subst eB; subst eC
                rw [g1] at d1 hIy
                rw [g2] at d2 hIv
                have y1 : ∀ z : ExtOf wr, z.1.cell? ⟨b9, o9 + p, none⟩ = some (.int .i64 y) := fun z => z.2.cell d1
                have y2 : ∀ z : ExtOf wr, z.1.cell? ⟨b9, o9 + (p + 1), none⟩ = some (.int .i64 vv) := fun z => z.2.cell d2
                have hn1 : (p : Int) + 1 < (IT.length : Int) := by omega
                by_cases hyv : vv < y
                · have hd : decide (vv < y) = true := by simp [hyv]
                  go_wp2_with fail
                  refine wp_region_ext (by kernel_rfl) (by kernel_rfl) ?_
                  repeat (go_big_quiet_step ((fail)))
                  refine wpQuiet_nil ?_
                  rintro w21 ⟨⟨_, x21⟩, rfl⟩
                  have hO21 := hO.ext x21
                  obtain ⟨g, off, cp, eG, hgF, k1, f1, st1⟩ := hO21.int_store HN.out (i := p + 1) h2
                  injection eG with eG q1 q2
                  clear q1 q2
                  injection eG with eG
                  injection eG with e8 e7 _
                  subst e8; subst e7
                  rw [g2] at k1
                  have hO1 := st1 y hIy
                  have hp1 : p < (L.set (p + 1) y).length := by rw [List.length_set]; exact h1
                  obtain ⟨g, off, cp, eG, _, k2, f2, st2⟩ := hO1.int_store HN.out (i := p) hp1
                  injection eG with eG q1 q2
                  clear q1 q2
                  injection eG with eG
                  injection eG with e8 e7 _
                  subst e8; subst e7
                  have hO2 := st2 vv hIv
                  have hfin : (L.set (p + 1) y).set p vv = S.take p ++ vv :: (S.drop p ++ R) := by
                    have hsw := swap_two (S.take p) (S.drop (p + 1) ++ R) y vv
                    rw [hpl] at hsw
                    rw [hLe, hsw, hdr]
                    rfl
                  rw [hfin] at hO2
                  have hu2 : ∃ u, (w21.setCell ⟨b9, o9 + (p + 1), none⟩ (.int .i64 y)).cell? ⟨b9, o9 + p, none⟩ = some u := ⟨_, k2⟩
                  clear k2
                  obtain ⟨u2, k2⟩ := hu2
                  have HO2 := hid hO2
                  have HX2 := hid (((hx.trans x21).setCell (p := ⟨b9, o9 + (p + 1), none⟩) (HFB.out b9 hgF) (.int .i64 y)).setCell (p := ⟨b9, o9 + p, none⟩) (HFB.out b9 hgF) (.int .i64 vv))
                  have HDR := hid (show ∀ x ∈ S.drop p, vv < x from fun x hx => by
                    rw [hdr] at hx
                    rcases List.mem_cons.1 hx with rfl | hx
                    · exact hyv
                    · exact HAL.out x hx)
                  have z1 := x21.cell d1
                  have z2 := x21.cell d2
                  clear hO hO21 hO1 hO2 st1 st2 hfin hL hLe htk hdr g1 g2 hsl y1 y2 d1 d2 hyv hx x21
                  go_wp2
                  go_roundw
                  case rel => exact ⟨p, by omega, by go_num, HO2.out, HDR.out, HX2.out⟩
                  case measure => simp [intOf]
                · have hd : decide (vv < y) = false := by simp [hyv]
                  have HCI := hid (show insK (fun x : Int => x) S vv = S.take (p + 1) ++ vv :: S.drop (p + 1) from by
                    have hc := cntK_eq (fun x : Int => x) (v := vv) (k := p + 1) (xs := S) (by omega) HAL.out (fun _ => by show ¬ vv < S[p + 1 - 1]; simp only [Nat.add_sub_cancel]; rw [← HY.out]; exact hyv)
                    unfold insK
                    rw [hc])
                  go_wp2_with fail
                  refine wp_region_ext (by kernel_rfl) (by kernel_rfl) ?_
                  repeat (go_big_quiet_step ((fail)))
                  refine wpQuiet_nil ?_
                  rintro w21 ⟨⟨_, x21⟩, rfl⟩
                  have HO := hid (show OwnSl intO w21 (.slice (some ⟨b9, o9, none⟩) IT.length c9) (insK (fun x : Int => x) S vv ++ R) F from by rw [HCI.out]; have := hO.ext x21; rw [hL] at this; simpa using this)
                  clear hO
                  go_wp2
                  go_roundw
                  case rel => exact ⟨k + 1, by omega, by go_num, by rw [HST.out, HR.out]; exact HO.out, hx.trans x21⟩
                  case measure => simp [intOf]; omega
              · have hq00 : q = 0 := by omega
                subst hq00
                have hjd2 : decide ((0 : Int) < ((0 : Nat) : Int)) = false := by decide
                have HCI := hid (show insK (fun x : Int => x) S vv = S.take 0 ++ vv :: S.drop 0 from by
                  have hc := cntK_eq (fun x : Int => x) (v := vv) (k := 0) (xs := S) (by omega) HAL.out (fun h => absurd h (by omega))
                  unfold insK
                  rw [hc])
                go_wp2_with fail
                refine wp_region_ext (by kernel_rfl) (by kernel_rfl) ?_
                repeat (go_big_quiet_step ((fail)))
                refine wpQuiet_nil ?_
                rintro w21 ⟨⟨_, x21⟩, rfl⟩
                have HO := hid (show OwnSl intO w21 (.slice A9 IT.length c9) (insK (fun x : Int => x) S vv ++ R) F from by rw [HCI.out]; have := hO.ext x21; skip; simpa using this)
                clear hO
                go_wp2
                go_roundw
                case rel => exact ⟨k + 1, by omega, by go_num, by rw [HST.out, HR.out]; exact HO.out, hx.trans x21⟩
                case measure => simp [intOf]; omega
          · have hkn : k = IT.length := by omega
            subst hkn
            rw [List.take_length, List.drop_length, List.append_nil, ← HIS.out] at hO
            obtain ⟨IS, hIS⟩ : ∃ I, I = itemsS cur := ⟨_, rfl⟩
            rw [← hIS] at hO HLK HLR
            have hISl : IS.length = IT.length := by rw [hIS, HIS.out, sortK_len]
            rw [← hISl] at hO ⊢
            obtain ⟨w6, hw6⟩ : ∃ x, x = wr := ⟨_, rfl⟩
            rw [← hw6] at hO hx ⊢
            have HSI := hid (show ∀ W, Ext w6 W → Sl intR W (.slice A9 IS.length c9) IS from fun W y => hO.sl.mono y)
            have HX6 := hid hx
            clear hw6 hIS hISl hO hx hif HIS HN HFB
            go_wp2_with fail
            go_loopw [14] (fun i wr => ∃ k : Nat, k ≤ KP.length ∧ i = .int .i64 k ∧ Ext w6 wr) (fun i _ => KP.length - (intOf i).toNat)
            case atStart => exact ⟨0, Nat.zero_le _, rfl, Ext.refl _⟩
            case round =>
              obtain ⟨k, hk, rfl, hx⟩ := hrel
              by_cases hlt : k < KP.length
              · obtain ⟨b1, o1, e1, _, c0, c1, c2, c3⟩ := (HS.out _ (HX6.out.trans hx)).1.verdict hlt
                obtain ⟨b2, o2, e2, _, d0, d1, d2, d3⟩ := (HS.out _ (HX6.out.trans hx)).2.2.1.verdict hlt
                subst e1; subst e2
                have y0 : ∀ z : ExtOf wr, z.1.cell? ⟨b1, o1 + k * 4, none⟩ = _ := fun z => z.2.cell c0
                have y1 : ∀ z : ExtOf wr, z.1.cell? ⟨b1, o1 + k * 4 + 1, none⟩ = _ := fun z => z.2.cell c1
                have y2 : ∀ z : ExtOf wr, z.1.cell? ⟨b1, o1 + k * 4 + 2, none⟩ = _ := fun z => z.2.cell c2
                have y3 : ∀ z : ExtOf wr, z.1.cell? ⟨b1, o1 + k * 4 + 3, none⟩ = _ := fun z => z.2.cell c3
                have z0 : ∀ z : ExtOf wr, z.1.cell? ⟨b2, o2 + k * 4, none⟩ = _ := fun z => z.2.cell d0
                have z1 : ∀ z : ExtOf wr, z.1.cell? ⟨b2, o2 + k * 4 + 1, none⟩ = _ := fun z => z.2.cell d1
                have z2 : ∀ z : ExtOf wr, z.1.cell? ⟨b2, o2 + k * 4 + 2, none⟩ = _ := fun z => z.2.cell d2
                have z3 : ∀ z : ExtOf wr, z.1.cell? ⟨b2, o2 + k * 4 + 3, none⟩ = _ := fun z => z.2.cell d3
                clear c0 c1 c2 c3 d0 d1 d2 d3
                go_wp2_with fail
                refine wp_region_ext (by kernel_rfl) (by kernel_rfl) ?_
                repeat (go_big_quiet_step ((fail)))
                refine wpQuiet_nil ?_
                rintro w29 ⟨⟨_, x29⟩, rfl⟩
                go_wp2
                go_roundw
                case rel => exact ⟨k + 1, by omega, by go_num, hx.trans x29⟩
                case measure => simp [intOf]; omega
              · have HX4 := hid hx
                obtain ⟨w7, hw7⟩ : ∃ x, x = wr := ⟨_, rfl⟩
                rw [← hw7] at HX4 ⊢
                clear hw7 hx
                go_wp2_with fail
                clear hk hlt
                go_loopw [15] (fun i wr => ∃ k : Nat, k ≤ RF.length ∧ i = .int .i64 k ∧ Ext w7 wr) (fun i _ => RF.length - (intOf i).toNat)
                case atStart => exact ⟨0, Nat.zero_le _, rfl, Ext.refl _⟩
                case round =>
                  obtain ⟨k, hk, rfl, hx⟩ := hrel
                  by_cases hlt : k < RF.length
                  · have hxx := HX6.out.trans (HX4.out.trans hx)
                    obtain ⟨b1, o1, e1, _, c0, c1, c2, c3⟩ := (HS.out _ hxx).2.1.verdict hlt
                    obtain ⟨b2, o2, e2, _, d0, d1, d2, d3⟩ := (HS.out _ hxx).2.2.2.1.verdict hlt
                    subst e1; subst e2
                    have hsm := HRS.out RF[k] (List.getElem_mem hlt)
                    rw [hsm] at c2 d2
                    have y0 : ∀ z : ExtOf wr, z.1.cell? ⟨b1, o1 + k * 4, none⟩ = _ := fun z => z.2.cell c0
                    have y1 : ∀ z : ExtOf wr, z.1.cell? ⟨b1, o1 + k * 4 + 1, none⟩ = _ := fun z => z.2.cell c1
                    have y2 : ∀ z : ExtOf wr, z.1.cell? ⟨b1, o1 + k * 4 + 2, none⟩ = _ := fun z => z.2.cell c2
                    have y3 : ∀ z : ExtOf wr, z.1.cell? ⟨b1, o1 + k * 4 + 3, none⟩ = _ := fun z => z.2.cell c3
                    have z0 : ∀ z : ExtOf wr, z.1.cell? ⟨b2, o2 + k * 4, none⟩ = _ := fun z => z.2.cell d0
                    have z1 : ∀ z : ExtOf wr, z.1.cell? ⟨b2, o2 + k * 4 + 1, none⟩ = _ := fun z => z.2.cell d1
                    have z2 : ∀ z : ExtOf wr, z.1.cell? ⟨b2, o2 + k * 4 + 2, none⟩ = _ := fun z => z.2.cell d2
                    have z3 : ∀ z : ExtOf wr, z.1.cell? ⟨b2, o2 + k * 4 + 3, none⟩ = _ := fun z => z.2.cell d3
                    clear c0 c1 c2 c3 d0 d1 d2 d3 hsm hxx
                    go_wp2_with fail
                    refine wp_region_ext (by kernel_rfl) (by kernel_rfl) ?_
                    repeat (go_big_quiet_step ((fail)))
                    refine wpQuiet_nil ?_
                    rintro w34 ⟨⟨_, x34⟩, rfl⟩
                    go_wp2
                    go_roundw
                    case rel => exact ⟨k + 1, by omega, by go_num, hx.trans x34⟩
                    case measure => simp [intOf]; omega
                  · have HX5 := hid (HX6.out.trans (HX4.out.trans hx))
                    have hx6 := HX4.out.trans hx
                    clear hx
                    by_cases h1 : 1 ≤ IS.length
                    · have h1i : ¬ ((IS.length : Int) < 1) := by omega
                      by_cases h8 : IS.length ≤ 8
                      · have h8i : ¬ ((8 : Int) < (IS.length : Int)) := by omega
                        obtain ⟨k1, k2⟩ := HLK.out h1 h8
                        obtain ⟨CV, hCV⟩ : ∃ c, c = vcons IS KP := ⟨_, rfl⟩
                        have HVC := hid (impl_VerdictConstraints _ _ KP IS wr (HS.out _ HX5.out).1 (HSI.out _ hx6) (by omega))
                        have HRF := hid (fun (v : Verdict) (hv : v ∈ RF) => HLR.out h1 h8 v hv)
                        rw [← hCV] at k1 k2 HVC HRF
                        have hcl : ((CV.length : Int) != (KP.length : Int)) = false := by simp [k1]
                        have HK2 := hid k2
                        have hCl : CV.length ≤ 8 := by omega
                        have HC8 := hid hCl
                        have HX66 := hid hx6
                        clear k1 k2 hCV HLK HLR hx6
                        go_wp2_with fail
                        refine (HVC.out).mono ?_
                        rintro e w8 ⟨v8, F8, rfl, o8, _, x8⟩
                        have s8 := o8.sl
                        obtain ⟨A8, c8, e8, _⟩ := s8.form
                        subst e8
                        have HIC := hid (impl_IsConsistent (IS.length : Int) _ CV w8 s8)
                        rw [HK2.out] at HIC
                        have HS8 := hid (show ∀ W, Ext w8 W → Sl constraintR W (.slice A8 CV.length c8) CV from fun W y => s8.mono y)
                        clear o8 s8 HVC
                        go_wp2_with fail
                        refine (HIC.out).mono ?_
                        rintro e w9 ⟨rfl, x9⟩
                        have HX9 := hid (HX5.out.trans (x8.trans x9))
                        have HX96 := hid (HX66.out.trans (x8.trans x9))
                        have HX98 := hid x9
                        clear x8 x9 HIC hcl
                        go_wp2_with fail
                        go_loopw [17] (fun i wr => ∃ j : Nat, j ≤ RF.length ∧ i = .int .i64 j ∧ Ext w9 wr) (fun i _ => RF.length - (intOf i).toNat)
                        case atStart => exact ⟨0, Nat.zero_le _, rfl, Ext.refl _⟩
                        case round =>
                          obtain ⟨j, hj, rfl, hx⟩ := hrel
                          by_cases hlt : j < RF.length
                          · obtain ⟨b, off, eA, hokk, c0, c1, c2, c3⟩ := (HS.out _ (HX9.out.trans hx)).2.1.verdict hlt
                            subst eA
                            obtain ⟨wq, hwq⟩ : ∃ x, x = wr := ⟨_, rfl⟩
                            rw [← hwq] at hx c0 c1 c2 c3 ⊢
                            have HCM := hid (show ∀ W, Ext wq W → W.cell? ⟨b, off + j * 4, none⟩ = some (.int .i64 RF[j].a) ∧ W.cell? ⟨b, off + j * 4 + 1, none⟩ = some (.int .i64 RF[j].b) ∧ W.cell? ⟨b, off + j * 4 + 2, none⟩ = some (.bool RF[j].same) ∧ W.cell? ⟨b, off + j * 4 + 3, none⟩ = some (.int .i64 RF[j].time) from fun W y => ⟨y.cell c0, y.cell c1, y.cell c2, y.cell c3⟩)
                            have HXQ6 := hid (HX96.out.trans hx)
                            have HXQ8 := hid (HX98.out.trans hx)
                            have HXQ := hid hx
                            have HOKX := hid hokk
                            have HRJ := hid (HRF.out RF[j] (List.getElem_mem hlt))
                            have hvl := vcon_len IS RF[j]
                            have hv1 : (vcons IS [RF[j]]).length ≤ 1 := by unfold vcons; simpa using hvl
                            have HL1 := hid (show ([] : List Constraint).length + CV.length ≤ 1099511627776 by have := HC8.out; simp only [List.length_nil]; omega)
                            have HL2 := hid (show CV.length + (vcons IS [RF[j]]).length ≤ 1099511627776 by have := HC8.out; omega)
                            have HE1 := hid (show (wq.alloc (.cells #[] 56)).heap[wq.heap.size]? = some (.cells #[] 56 (0, 0)) from heap_alloc_new wq _)
                            have HE2 := hid (show ((wq.alloc (.cells #[] 56)).alloc (.cells #[.int .i64 RF[j].a, .int .i64 RF[j].b, .bool RF[j].same, .int .i64 RF[j].time] 32)).heap[wq.heap.size]? = some (.cells #[] 56 (0, 0)) from (((Ext.refl (wq.alloc (.cells #[] 56))).alloc _).block (by simp)).trans (heap_alloc_new wq _))
                            have HV2 := hid (show ((wq.alloc (.cells #[] 56)).alloc (.cells #[.int .i64 RF[j].a, .int .i64 RF[j].b, .bool RF[j].same, .int .i64 RF[j].time] 32)).heap[wq.heap.size + 1]? = some (.cells #[.int .i64 RF[j].a, .int .i64 RF[j].b, .bool RF[j].same, .int .i64 RF[j].time] 32 (0, 0)) from by have := heap_alloc_new (wq.alloc (.cells #[] 56)) (.cells #[.int .i64 RF[j].a, .int .i64 RF[j].b, .bool RF[j].same, .int .i64 RF[j].time] 32); rwa [World.size_alloc] at this)
                            have HE3 := hid (show ((wq.alloc (.cells #[.int .i64 RF[j].a, .int .i64 RF[j].b, .bool RF[j].same, .int .i64 RF[j].time] 32)).alloc (.cells #[] 56)).heap[wq.heap.size + 1]? = some (.cells #[] 56 (0, 0)) from by have := heap_alloc_new (wq.alloc (.cells #[.int .i64 RF[j].a, .int .i64 RF[j].b, .bool RF[j].same, .int .i64 RF[j].time] 32)) (.cells #[] 56); rwa [World.size_alloc] at this)
                            have HV3 := hid (show ((wq.alloc (.cells #[.int .i64 RF[j].a, .int .i64 RF[j].b, .bool RF[j].same, .int .i64 RF[j].time] 32)).alloc (.cells #[] 56)).heap[wq.heap.size]? = some (.cells #[.int .i64 RF[j].a, .int .i64 RF[j].b, .bool RF[j].same, .int .i64 RF[j].time] 32 (0, 0)) from (((Ext.refl (wq.alloc (.cells #[.int .i64 RF[j].a, .int .i64 RF[j].b, .bool RF[j].same, .int .i64 RF[j].time] 32))).alloc _).block (by simp)).trans (heap_alloc_new wq _))
                            have HCALL := hid (show ∀ (W : World) (g : Nat), W.heap[g]? = some (.cells #[.int .i64 RF[j].a, .int .i64 RF[j].b, .bool RF[j].same, .int .i64 RF[j].time] 32 (0, 0)) → Ext wq W → Calls Try.prog 11 #[.slice (some ⟨g, 0, none⟩) 1 1, .slice A9 IS.length c9] W fun e w2 => ∃ v2 F, e = .returned v2 ∧ OwnSl constraintO w2 v2 (vcons IS [RF[j]]) F ∧ NewF W F ∧ Ext W w2 from fun W g hg y => impl_VerdictConstraints _ _ [RF[j]] IS W (Sl.lit_ver hg hokk) (HSI.out _ (HXQ6.out.trans y)) (by simp))
                            clear hwq hx hokk c0 c1 c2 c3 hvl hv1
                            go_wp2_with fail
                            go_region_held3 (fun w' => w'.cell? ⟨b, off + j * 4, none⟩ = some (.int .i64 RF[j].a) ∧ w'.cell? ⟨b, off + j * 4 + 1, none⟩ = some (.int .i64 RF[j].b) ∧ w'.cell? ⟨b, off + j * 4 + 2, none⟩ = some (.bool RF[j].same) ∧ w'.cell? ⟨b, off + j * 4 + 3, none⟩ = some (.int .i64 RF[j].time)) (exact HCM.out _ (by repeat (first | with_reducible exact Ext.refl _ | with_reducible assumption | with_reducible refine Ext.drew ?_ | with_reducible refine Ext.alloc ?_ _ | with_reducible refine Ext.trans ?_ (by with_reducible assumption)))) (first | (have q1 := hB1; have q2 := o5; refine step_appS (R := constraintR) (w1 := wv) (by decide) elemCons (by decide) con_one rfl _ _ rfl (show Bld (atO constraintR wv) _ wq.heap.size 56 _ CV [] from hB1.ext (by repeat (first | with_reducible exact Ext.refl _ | with_reducible assumption | with_reducible refine Ext.drew ?_ | with_reducible refine Ext.alloc ?_ _ | with_reducible refine Ext.trans ?_ (by with_reducible assumption)))) rfl rfl o5.sl (by repeat (first | with_reducible exact Ext.refl _ | with_reducible assumption | with_reducible refine Ext.drew ?_ | with_reducible refine Ext.alloc ?_ _ | with_reducible refine Ext.trans ?_ (by with_reducible assumption))) HL2.out (Ext.size (by repeat (first | with_reducible exact Ext.refl _ | with_reducible assumption | with_reducible refine Ext.drew ?_ | with_reducible refine Ext.alloc ?_ _ | with_reducible refine Ext.trans ?_ (by with_reducible assumption)))) (w0 := wq) (Nat.le_refl _) (by repeat (first | with_reducible exact Ext.refl _ | with_reducible assumption | with_reducible refine Ext.drew ?_ | with_reducible refine Ext.alloc ?_ _ | with_reducible refine Ext.trans ?_ (by with_reducible assumption))) ?_; intro v6 wz hB2 xs2 _) | (go_at_call 11; refine (HCALL.out _ _ ?hL ?hE).mono ?_; (case hL => first | exact heap_alloc_new w4 _ | exact (hk1 _ (by simp <;> omega) (by simp [Value.ownBlock])).trans HV2.out | exact (hk1 _ (by simp <;> omega) (by simp [Value.ownBlock])).trans HV3.out | exact heap_alloc_new wq _ | exact HV3.out | exact HV2.out | fail); (case hE => ((repeat (first | with_reducible exact Ext.refl _ | with_reducible assumption | with_reducible refine Ext.drew ?_ | with_reducible refine Ext.alloc ?_ _ | with_reducible refine Ext.trans ?_ (by with_reducible assumption))); done)); rintro e wv ⟨v5, F5, rfl, o5, n5, x5⟩; obtain ⟨A5, c5, e5, _⟩ := o5.form; subst e5) | (refine step_appS (R := constraintR) (by decide) elemCons (by decide) con_one rfl _ _ rfl (Bld.empQ (R := atO constraintR wq) (base := wq.heap.size) ?hG ?hH) rfl rfl (HS8.out _ HXQ8.out) (by repeat (first | with_reducible exact Ext.refl _ | with_reducible assumption | with_reducible refine Ext.drew ?_ | with_reducible refine Ext.alloc ?_ _ | with_reducible refine Ext.trans ?_ (by with_reducible assumption))) HL1.out (by simp <;> omega) (w0 := wq) (Nat.le_refl _) (by repeat (first | with_reducible exact Ext.refl _ | with_reducible assumption | with_reducible refine Ext.drew ?_ | with_reducible refine Ext.alloc ?_ _ | with_reducible refine Ext.trans ?_ (by with_reducible assumption))) ?_; (case hH => first | exact HE1.out | exact HE2.out | exact HE3.out | exact heap_alloc_new wv _ | exact (x5.block (by simp)).trans HE2.out | exact (x5.block (by simp)).trans HE3.out | fail); (case hG => first | exact Nat.le_refl _ | exact Nat.le_succ _ | exact Nat.le_trans (by simp) x5.size | fail); intro v4 w4 hB1 xs1 hk1; rw [List.nil_append] at hB1))
                            all_goals
                              have hmore := hB2.conSl
                              obtain ⟨LM, hLM⟩ : ∃ L, L = CV ++ vcons IS [RF[j]] := ⟨_, rfl⟩
                              rw [← hLM] at hmore
                              obtain ⟨A6, c6, e6, _⟩ := hmore.form
                              subst e6
                              have HIC := hid (impl_IsConsistent (IS.length : Int) _ LM wz hmore)
                              rw [show consistB (IS.length : Int) LM = false from by rw [hLM]; exact HRJ.out] at HIC
                              clear hLM
                              have HXZ := hid (HXQ.out.trans xs2)
                              clear hmore hB2 xs2
                              go_wp2_with fail
                              refine (HIC.out).mono ?_
                              rintro e wy ⟨rfl, xy⟩
                              go_wp2
                              go_roundw
                              case rel => exact ⟨j + 1, by omega, by go_num, HXZ.out.trans xy⟩
                              case measure => simp [intOf]; omega
                          · go_wp2
                            go_ret
                            exact ⟨rfl, HX.out.trans (HX9.out.trans hx)⟩
                      · have h8i : (8 : Int) < (IS.length : Int) := by omega
                        go_wp2
                        go_ret
                        exact ⟨rfl, HX.out.trans HX5.out⟩
                    · have h1i : (IS.length : Int) < 1 := by omega
                      go_wp2
                      go_ret
                      exact ⟨rfl, HX.out.trans HX5.out⟩

end Go.Proofs.Ytmembjjgkideeaa
