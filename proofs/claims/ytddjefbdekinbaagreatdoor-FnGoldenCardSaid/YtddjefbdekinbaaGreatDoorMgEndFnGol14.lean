/-
  THE LAW'S WALK: FnGolden.
-/
import Derived.Test.YtddjefbdekinbaaGreatDoorMgEndFnGol13
import Derived.Test.YtddjefbdekinbaaGreatDoorMgEndFnGol12
import Derived.Test.YtddjefbdekinbaaGreatDoorMgEndFnGol0
import Derived.Test.YtddjefbdekinbaaGreatDoorMgEndFnGol6

namespace Go.Proofs.YtddjefbdekinbaaGreatDoor
open Go.RowKit

/-- what the laid variables must say: the table of powers, the greatest length -/
structure TM (w : World) : Prop where
  T : Tab w
  M : ML w
theorem TM.mono {w w2 : World} (e : Ext w w2) (h : TM w) : TM w2 := ⟨h.T.mono e, h.M.mono e⟩
/-- is the field empty in all of them -/
noncomputable def allE (q : Nat) (xs : List Record) : Bool := xs.all fun r => eqB (normS (fldAt q r)) ⟨#[]⟩
theorem allE_take {q : Nat} {xs : List Record} {k : Nat} (h : k < xs.length) : allE q (xs.take (k + 1)) = (allE q (xs.take k) && eqB (normS (fldAt q xs[k])) ⟨#[]⟩) := by
  unfold allE
  rw [List.take_succ_eq_append_getElem h, List.all_append]
  simp
theorem allE_iff (q : Nat) (xs : List Record) : allE q xs = true ↔ ∀ r ∈ xs, normS (fldAt q r) = ⟨#[]⟩ := by
  unfold allE
  rw [List.all_eq_true]
  exact ⟨fun h r hr => (eqB_iff _ _).1 (h r hr), fun h r hr => (eqB_iff _ _).2 (h r hr)⟩
theorem fsupN_bd (xs : List Record) (f : Int) (s : ByteArray) : 0 ≤ fsupN xs f s ∧ fsupN xs f s ≤ 12 := by
  unfold fsupN
  split
  · rename_i h
    have h1 := supC_le f.toNat s xs
    have h2 := goodRecs_len h.1
    omega
  · omega
theorem rev_drop {xs : List Record} {j : Nat} (h : j < xs.length) : (xs.drop j).reverse = (xs.drop (j + 1)).reverse ++ [xs[j]] := by
  rw [List.drop_eq_getElem_cons h, List.reverse_cons]

set_option maxHeartbeats 4000000 in
set_option maxRecDepth 20000 in
theorem law_FnGolden (v : Value) (bs : List Int) (w : World) (h : Sl u8R w v bs) (N : TM w) :
    Calls Tryz.prog 3 #[v] w fun e w2 => e = .returned (.bool true) ∧ Ext w w2 := by
  by_cases hbig : 1048576 < bs.length
  · go_enter Tryz.func3, Tryz.ntmps3
    go_wp2_with fail
    refine (laws_big _ bs w h).mono ?_
    rintro e w2 ⟨rfl, rfl⟩
    rw [decide_eq_true hbig]
    go_wp2
    go_ret
    exact ⟨rfl, Ext.refl _⟩
  · go_enter Tryz.func3, Tryz.ntmps3
    go_wp2_with fail
    refine (laws_big _ bs w h).mono ?_
    rintro e w2 ⟨rfl, rfl⟩
    rw [decide_eq_false hbig]
    go_wp2_with fail
    refine (spec_DrawGoldenRecord w _ bs h).mono ?_
    rintro e w2 ⟨v1, v2, xs, rs, rfl, s1, hxl, s2, x2⟩
    obtain ⟨A1, c1, e1, _⟩ := s1.form
    subst e1
    obtain ⟨A2, c2, e2, _⟩ := s2.form
    subst e2
    go_wp2_with fail
    refine (impl_GoldenRecord _ _ xs rs _ s1 s2 (N.mono x2).M).mono ?_
    rintro e w3 ⟨v3, F3, rfl, o3, _, x3⟩
    go_wp2_with fail
    refine (spec_GoldenRecord _ _ xs rs _ (s1.mono x3) (s2.mono x3)).mono ?_
    rintro e w4 ⟨v4, F4, rfl, o4, _, x4⟩
    have s3 := o3.sl.mono x4
    have s4 := o4.sl
    replace s1 := (s1.mono x3).mono x4
    replace s2 := (s2.mono x3).mono x4
    have xw := (x2.trans x3).trans x4
    obtain ⟨L, hL⟩ : ∃ L, L = grN xs rs := ⟨_, rfl⟩
    obtain ⟨ok, hok⟩ : ∃ ok, ok = grOk xs rs := ⟨_, rfl⟩
    rw [← hL] at s3 s4
    rw [← hok]
    have HL := hid hL
    have HOK := hid hok
    obtain ⟨A3, c3, e3, _⟩ := s3.form
    subst e3
    obtain ⟨A4, c4, e4, _⟩ := s4.form
    subst e4
    have hb1 : (ok != ok) = false := by simp
    have hb2 : (survRules rs != survRules rs) = false := by simp
    clear o3 o4 x2 x3 x4 hL hok
    go_wp2_with fail
    refine (spec_EqualTokens _ _ L L _ s3 s4).mono ?_
    rintro e w5 ⟨rfl, x5⟩
    rw [eqB_self]
    go_wp2_with fail
    refine (impl_AreSurvivorRules _ rs _ (s2.mono x5)).mono ?_
    rintro e w6 ⟨rfl, x6⟩
    go_wp2_with fail
    refine (spec_AreSurvivorRules _ rs _ ((s2.mono x5).mono x6)).mono ?_
    rintro e w7 ⟨rfl, x7⟩
    replace s1 := ((s1.mono x5).mono x6).mono x7
    replace s2 := ((s2.mono x5).mono x6).mono x7
    replace s3 := ((s3.mono x5).mono x6).mono x7
    replace xw := ((xw.trans x5).trans x6).trans x7
    clear s4 x5 x6 x7 hb1
    cases ok with
    | false =>
      have hl0 : L = [] := HL.out.trans (grN_no HOK.out.symm)
      subst hl0
      go_wp2
      go_ret
      exact ⟨rfl, xw⟩
    | true =>
      have HG := hid HOK.out.symm
      have S1 := hid s1
      have S2 := hid s2
      have S3 := hid s3
      have XW := hid xw
      clear hb2 s2 s3 xw
      go_wp2
      obtain ⟨wb, hwb⟩ : ∃ wb : World, wb = w7 := ⟨_, rfl⟩
      go_loopw [9, 10] (fun t i wr => ∃ k : Nat, k ≤ xs.length ∧ i = .int .i64 ((k : Int) - 1) ∧ Bld (atO recordR w7) wr w7.heap.size 34 t (xs.drop k).reverse [] ∧ Ext w7 wr) (fun _ i _ => (intOf i + 1).toNat)
      case atStart => exact ⟨xs.length, Nat.le_refl _, rfl, by rw [List.drop_length]; exact Bld.lit w7 (Nat.le_refl _) _, (Ext.refl _).alloc _⟩
      case round =>
        obtain ⟨k, hk, rfl, hB, hx⟩ := hrel
        cases k with
        | succ j =>
          rw [show (((j + 1 : Nat) : Int) - 1) = (j : Int) by omega]
          have hj : j < xs.length := by omega
          obtain ⟨b, off, A5, c5, eA, hok5, hs5, q0, q1, q2, q3⟩ := s1.record hj
          cases eA
          have HRD := hid (show (atO recordR w7).own wr (#[.int .i64 xs[j].source, .int .i64 xs[j].key, .int .i64 xs[j].version, .slice A5 xs[j].fields.length c5] : Array Value).toList xs[j] [] from ⟨⟨_, rfl, hok5, hs5⟩, rfl⟩)
          replace q0 := hx.cell q0
          replace q1 := hx.cell q1
          replace q2 := hx.cell q2
          replace q3 := hx.cell q3
          have HST := hid (rev_drop hj)
          have HLN := hid (show ((xs.drop (j + 1)).reverse).length + 1 ≤ 1099511627776 by rw [List.length_reverse, List.length_drop]; omega)
          have hsz := hx.size
          clear hs5 hok5
          go_wp2_with (at_builtin; go_loud (refine wpList_app1 (R := atO recordR w7) elemRec (show 0 < recordO.n by decide) rfl _ _ rfl hB rfl wr.heap.size 1 rfl rfl (one_rec5 _ _ _ _ _ _) (y := xs[j]) HRD.out fresh_nil HLN.out (by decide) hsz ?_); intro v9 w9 hB9 hE9)
          go_roundw
          case rel => exact ⟨j, by omega, by rfl, by rw [HST.out]; exact hB9, hE9 w7 (Nat.le_refl _) hx⟩
          case measure => simp [intOf]; try omega
        | zero =>
          rw [show (((0 : Nat) : Int) - 1) = -1 by rfl]
          rw [List.drop_zero] at hB
          have sb := Sl.of_at hB.sl hx
          obtain ⟨A9, c9, e9, _⟩ := sb.form
          rw [List.length_reverse] at e9
          subst e9
          have t1 := s1.mono hx
          have t2 := S2.out.mono hx
          have t3 := S3.out.mono hx
          have xw2 := XW.out.trans hx
          have HPM := hid (grN_perm (List.reverse_perm xs) rs)
          clear hB hwb
          go_wp2_with fail
          refine (impl_GoldenRecord _ _ xs.reverse rs _ sb t2 (N.mono xw2).M).mono ?_
          rintro e w8 ⟨v8, F8, rfl, o8, _, x8⟩
          rw [HPM.out, ← HL.out] at o8
          go_wp2_with fail
          refine (spec_EqualTokens _ _ L L _ (t3.mono x8) o8.sl).mono ?_
          rintro e w9 ⟨rfl, x9⟩
          rw [eqB_self]
          have T1 := hid ((t1.mono x8).mono x9)
          have T3 := hid ((t3.mono x8).mono x9)
          have XW2 := hid ((xw2.trans x8).trans x9)
          clear t1 t2 t3 xw2 x8 x9 o8 sb hx s1
          go_wp2
          go_loopw [13] (fun i wr => ∃ q : Nat, q ≤ 4 ∧ i = .int .i64 q ∧ Ext w9 wr) (fun i _ => 4 - (intOf i).toNat)
          case atStart => exact ⟨0, by omega, rfl, Ext.refl _⟩
          case round =>
            obtain ⟨q, hq, rfl, hx⟩ := hrel
            by_cases hq4 : q < 4
            · have hq4' : (q : Int) < 4 := by omega
              go_wp2
              obtain ⟨wi, hwi⟩ : ∃ wi : World, wi = wr := ⟨_, rfl⟩
              go_loopw [14, 15] (fun t i wq => ∃ p : Nat, p ≤ xs.length ∧ i = .int .i64 p ∧ t = .bool (allE q (xs.take p)) ∧ Ext wi wq) (fun _ i _ => xs.length - (intOf i).toNat)
              case atStart => exact ⟨0, Nat.zero_le _, rfl, rfl, by rw [hwi]; exact Ext.refl _⟩
              case round =>
                obtain ⟨p, hp, rfl, rfl, hxq⟩ := hrel
                rw [← hwi] at hx
                have hxx := hx.trans hxq
                by_cases hpl : p < xs.length
                · have HST := hid (allE_take (q := q) hpl)
                  cases ht : allE q (xs.take p) with
                  | false =>
                    have HH := hid ht
                    clear ht
                    go_wp2
                    go_roundw
                    case rel => exact ⟨p + 1, by omega, by go_num, by rw [HST.out, HH.out]; rfl, hxq⟩
                    case measure => simp [intOf]; omega
                  | true =>
                    have HH := hid ht
                    clear ht
                    obtain ⟨b, off, A5, c5, eA, hok5, hs5, q0, q1, q2, q3⟩ := (T1.out.mono hxx).record hpl
                    cases eA
                    have hgd : okRec xs[p] = true := by
                      have := HG.out
                      unfold grOk at this
                      simp only [Bool.and_eq_true] at this
                      exact goodRecs_at this.1.1 (List.getElem_mem hpl)
                    have hfl : xs[p].fields.length = 4 := okRec_len hgd
                    obtain ⟨b5, off5, e5, hI5, d0⟩ := hs5.str (i := q) (by omega)
                    subst e5
                    have hfs := okRec_F hgd _ (List.getElem_mem (show q < xs[p].fields.length by omega))
                    have hfa : fldAt q xs[p] = xs[p].fields[q] := fldAt_eq (by omega)
                    obtain ⟨s, hs⟩ : ∃ s, s = xs[p].fields[q] := ⟨_, rfl⟩
                    rw [← hs] at hfs hfa d0
                    rw [hfl] at q3
                    have HFA := hid hfa
                    have hsz : s.size ≤ 1073741824 := by omega
                    clear hs5 q0 q1 q2 hI5 hfs hs hfa hgd hok5 hfl
                    go_wp2_with fail
                    refine (spec_Normalize s _ hsz).mono ?_
                    rintro e wn ⟨rfl, xn⟩
                    by_cases hn : normS s = ⟨#[]⟩
                    · obtain ⟨f1, f2⟩ := emp_yes hn
                      have HN := hid (show eqB (normS (fldAt q xs[p])) ⟨#[]⟩ = true by rw [HFA.out]; exact eqB_true hn)
                      clear hn
                      go_wp2
                      go_roundw
                      case rel => exact ⟨p + 1, by omega, by go_num, by rw [HST.out, HH.out, HN.out]; rfl, hxq.trans xn⟩
                      case measure => simp [intOf]; omega
                    · obtain ⟨f1, f2⟩ := emp_no hn
                      have HN := hid (show eqB (normS (fldAt q xs[p])) ⟨#[]⟩ = false by rw [HFA.out]; exact eqB_false hn)
                      clear hn
                      go_wp2
                      go_roundw
                      case rel => exact ⟨p + 1, by omega, by go_num, by rw [HST.out, HH.out, HN.out]; rfl, hxq.trans xn⟩
                      case measure => simp [intOf]; omega
                · rw [List.take_of_length_le (by omega)]
                  obtain ⟨hff, hfg⟩ := field_facts HG.out hq4
                  have hgl : L.length = 4 := by rw [HL.out, grN_yes HG.out, grL_len]
                  have hq9 : q < L.length := by omega
                  have hlq : L[q] = gfN xs q (rs.getD q 0) := by
                    have : L = grL xs rs 4 := by rw [HL.out, grN_yes HG.out]
                    subst this
                    unfold grL
                    simp
                  obtain ⟨s, hs⟩ : ∃ s, s = gfN xs q (rs.getD q 0) := ⟨_, rfl⟩
                  have hss : s.size ≤ 40 := by rw [hs]; exact gfN_size xs q _
                  rw [← hs] at hff hfg hlq
                  obtain ⟨b5, off5, e5, _, d0⟩ := (T3.out.mono hxx).str hq9
                  cases e5
                  rw [hlq] at d0
                  obtain ⟨al, hal⟩ : ∃ al, al = allE q xs := ⟨_, rfl⟩
                  rw [← hal]
                  have HGL := hid hgl
                  have hq9' : (q : Int) < (L.length : Int) := by omega
                  clear hs hlq hgl
                  have t1 := T1.out.mono hxx
                  have HXX := hid hxx
                  have nn := N.mono (XW2.out.trans hxx)
                  by_cases he : s = ⟨#[]⟩
                  · obtain rfl : al = true := hal.trans ((allE_iff q xs).2 (hff.2 he))
                    obtain ⟨f1, f2⟩ := emp_yes he
                    clear hff hfg he hal hwi
                    go_wp2_with fail
                    refine (impl_IsUnanimous _ xs q _ t1 (by unfold I64; omega) nn.M).mono ?_
                    rintro e wu ⟨rfl, xu⟩
                    replace d0 := xu.cell d0
                    cases hu : unN xs q with
                    | false =>
                      clear hu
                      go_wp2
                      go_roundw
                      case rel => exact ⟨q + 1, by omega, by go_num, HXX.out.trans xu⟩
                      case measure => simp [intOf]; omega
                    | true =>
                      clear hu
                      go_wp2
                      go_roundw
                      case rel => exact ⟨q + 1, by omega, by go_num, HXX.out.trans xu⟩
                      case measure => simp [intOf]; omega
                  · obtain rfl : al = false := by
                      cases hc : allE q xs with
                      | false => rw [hal, hc]
                      | true => exact absurd (hff.1 ((allE_iff q xs).1 hc)) he
                    obtain ⟨f1, f2⟩ := emp_no he
                    obtain ⟨g1, g2, g3⟩ := hfg he
                    obtain ⟨bd1, bd2⟩ := fsupN_bd xs q s
                    obtain ⟨bd3, bd4⟩ := fsupN_bd xs q ⟨#[]⟩
                    obtain ⟨n1, hn1⟩ : ∃ n, n = fsupN xs q s := ⟨_, rfl⟩
                    obtain ⟨n2, hn2⟩ : ∃ n, n = fsupN xs q ⟨#[]⟩ := ⟨_, rfl⟩
                    obtain ⟨t, ht⟩ : ∃ t, t = srcN xs q s := ⟨_, rfl⟩
                    rw [← hn1] at g1 g3 bd1 bd2
                    rw [← hn2] at g3 bd3 bd4
                    rw [← ht] at g2
                    have HN1 := hid hn1.symm
                    have HN2 := hid hn2.symm
                    have HT := hid ht.symm
                    obtain ⟨k1, k2⟩ := emp_no g2
                    have hlt1 : ¬ n1 < 1 := by omega
                    clear hff hfg he hal hwi hn1 hn2 ht g2 g1
                    go_wp2_with fail
                    refine (impl_FieldSupport _ xs q s _ t1 (by unfold I64; omega) (by omega) nn.M).mono ?_
                    rintro e wu ⟨rfl, xu⟩
                    rw [HN1.out]
                    replace d0 := xu.cell d0
                    replace t1 := t1.mono xu
                    replace nn := nn.mono xu
                    go_wp2_with fail
                    refine (impl_FieldSource _ xs q s _ t1 (by unfold I64; omega) (by unfold maxLen; omega) nn.T).mono ?_
                    rintro e wv ⟨rfl, xv⟩
                    rw [HT.out]
                    replace d0 := xv.cell d0
                    replace t1 := t1.mono xv
                    replace nn := nn.mono xv
                    go_wp2_with fail
                    refine (impl_IsUnanimous _ xs q _ t1 (by unfold I64; omega) nn.M).mono ?_
                    rintro e wx ⟨rfl, xx⟩
                    replace d0 := xx.cell d0
                    replace t1 := t1.mono xx
                    replace nn := nn.mono xx
                    have HX9 := hid (((HXX.out.trans xu).trans xv).trans xx)
                    clear xu xv xx
                    cases hu : unN xs q with
                    | false =>
                      clear hu g3
                      go_wp2
                      go_roundw
                      case rel => exact ⟨q + 1, by omega, by go_num, HX9.out⟩
                      case measure => simp [intOf]; omega
                    | true =>
                      have h3 := g3 hu
                      have hsm : (n1 + n2 != (xs.length : Int)) = false := by simp [h3]
                      clear hu g3 h3
                      go_wp2_with fail
                      refine (impl_FieldSupport _ xs q s _ t1 (by unfold I64; omega) (by omega) nn.M).mono ?_
                      rintro e wu ⟨rfl, xu⟩
                      rw [HN1.out]
                      go_wp2_with fail
                      refine (impl_FieldSupport _ xs q ⟨#[]⟩ _ (t1.mono xu) (by unfold I64; omega) (by decide) (nn.mono xu).M).mono ?_
                      rintro e wv ⟨rfl, xv⟩
                      rw [HN2.out]
                      go_wp2
                      go_roundw
                      case rel => exact ⟨q + 1, by omega, by go_num, (HX9.out.trans xu).trans xv⟩
                      case measure => simp [intOf]; omega
            · go_wp2
              go_ret
              exact ⟨rfl, XW2.out.trans hx⟩
end Go.Proofs.YtddjefbdekinbaaGreatDoor
