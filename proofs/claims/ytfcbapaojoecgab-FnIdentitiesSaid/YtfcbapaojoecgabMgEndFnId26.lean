/-
  THE LAW'S WALK: FnIdentities.
-/
import Derived.Test.YtfcbapaojoecgabMgEndFnId25
import Derived.Test.YtfcbapaojoecgabMgEndFnId24
import Derived.Test.YtfcbapaojoecgabMgEndFnId17
import Derived.Test.YtfcbapaojoecgabMgEndFnId6

namespace Go.Proofs.Ytfcbapaojoecgab
open Go.RowKit

/-- has one of them this identifier -/
def hasId (xs : List Entity) (x : Int) : Bool := xs.any fun e => e.id == x
theorem hasId_take {xs : List Entity} {x : Int} {k : Nat} (h : k < xs.length) : hasId (xs.take (k + 1)) x = (hasId (xs.take k) x || xs[k].id == x) := by
  unfold hasId
  rw [List.take_succ_eq_append_getElem h, List.any_append]
  simp
theorem hasId_no {xs : List Entity} {x : Int} (h : hasId xs x = false) : ∀ o ∈ xs, o.id ≠ x := by
  unfold hasId at h
  intro o ho e
  have := List.any_eq_false.1 h o ho
  exact this (by simp [e])

set_option maxHeartbeats 4000000 in
set_option maxRecDepth 20000 in
theorem law_FnIdentities (v : Value) (bs : List Int) (w : World) (h : Sl u8R w v bs) :
    Calls Try.prog 4 #[v] w fun e w2 => e = .returned (.bool true) ∧ Ext w w2 := by
  by_cases hbig : 1048576 < bs.length
  · go_enter Try.func4, Try.ntmps4
    go_wp2_with fail
    refine (laws_big _ bs w h).mono ?_
    rintro e w2 ⟨rfl, rfl⟩
    rw [decide_eq_true hbig]
    go_wp2
    go_ret
    exact ⟨rfl, Ext.refl _⟩
  · go_enter Try.func4, Try.ntmps4
    go_wp2_with fail
    refine (laws_big _ bs w h).mono ?_
    rintro e w2 ⟨rfl, rfl⟩
    rw [decide_eq_false hbig]
    go_wp2_with fail
    refine (spec_DrawCarryIdentities w _ bs h).mono ?_
    rintro e w2 ⟨v1, v2, n, xs, m, rfl, hI, s1, s2, m1, m2, m3, x2⟩
    obtain ⟨A1, c1, e1, _⟩ := s1.form
    subst e1
    obtain ⟨A2, c2, e2, _⟩ := s2.form
    subst e2
    go_wp2_with fail
    refine (impl_CarryIdentities _ _ xs m n _ s1 s2 (by omega) (by omega)).mono ?_
    rintro e w3 ⟨v3, F3, rfl, o3, n3, x3⟩
    go_wp2_with fail
    refine (spec_CarryIdentities _ _ xs m n _ (s1.mono x3) (s2.mono x3) (by omega) (by omega)).mono ?_
    rintro e w4 ⟨v4, rfl, s4, x4⟩
    have s3 := o3.sl.mono x4
    have s1 := (s1.mono x3).mono x4
    have xw := (x2.trans x3).trans x4
    have hms := carry_ms xs m n
    obtain ⟨C, hC⟩ : ∃ C, C = carry xs m n := ⟨_, rfl⟩
    rw [← hC] at s3 s4 hms ⊢
    have HC := hid hC
    obtain ⟨l, n2, ok⟩ := C
    dsimp only at s3 s4 hms ⊢
    obtain ⟨A3, c3, e3, _⟩ := s3.form
    subst e3
    obtain ⟨A4, c4, e4, _⟩ := s4.form
    subst e4
    have hb1 : (ok != ok) = false := by simp
    have hb2 : (n2 != n2) = false := by simp
    clear o3 n3 x2 x3 x4 hC s2 m1 m2
    go_wp2_with fail
    refine (impl_EqualEntities _ _ l l _ s3 s4).mono ?_
    rintro e w5 ⟨rfl, x5⟩
    rw [eqB_self]
    replace s1 := s1.mono x5
    replace s3 := s3.mono x5
    replace xw := xw.trans x5
    clear s4 x5 hb1 hb2
    cases hok : okC xs m n with
    | false =>
      have hcn := HC.out.trans (carry_no hok)
      injection hcn with hc1 hc2
      injection hc2 with hc2 hc3
      subst hc1
      subst hc3
      clear hc2 hok
      go_wp2
      go_ret
      exact ⟨rfl, xw⟩
    | true =>
      have hct : ok = true := by have := HC.out.trans (carry_yes hok); injection this with _ h2; injection h2 with _ h3
      subst hct
      obtain ⟨f1, f2, f3, f4⟩ := carry_facts hok
      rw [← HC.out] at f1 f2 f3 f4
      dsimp only at f1 f2 f3 f4
      have HK := hid (fun (o e : Entity) (ho : o ∈ xs) (he : e ∈ l) (hm : o.members = e.members) => carry_keeps hok ho (show e ∈ (carry xs m n).1 by rw [← HC.out]; exact he) hm)
      have F3 := hid f3
      have F4 := hid f4
      have f2' : ((l.length : Int) != (m.length : Int)) = false := by simp [f2]
      clear f3 f4 hok f2
      go_wp2_with fail
      refine (impl_AreEntities _ l _ s3 (by omega)).mono ?_
      rintro e w6 ⟨rfl, x6⟩
      rw [f1]
      replace s1 := s1.mono x6
      replace s3 := s3.mono x6
      replace xw := xw.trans x6
      clear x6 f1
      go_wp2
      go_loopw [12] (fun i wr => ∃ k : Nat, k ≤ l.length ∧ i = .int .i64 k ∧ Ext w6 wr) (fun i _ => l.length - (intOf i).toNat)
      case atStart => exact ⟨0, Nat.zero_le _, rfl, Ext.refl _⟩
      case round =>
        obtain ⟨k, hk, rfl, hx⟩ := hrel
        by_cases hlt : k < l.length
        · obtain ⟨e, he⟩ : ∃ e, e = l[k] := ⟨_, rfl⟩
          have hem : e ∈ l := by rw [he]; exact List.getElem_mem hlt
          have hid0 := F3.out e hem
          obtain ⟨b, off, A5, c5, eE, hIe, hs5, d0, d1⟩ := (s3.mono hx).ent hlt
          cases eE
          rw [← he] at d0 d1 hs5 hIe
          have HEK := hid he
          have HD := hid (And.intro d0 d1)
          have HS5 := hid hs5
          have hlt9 : ¬ e.id ≥ n2 := by omega
          clear he d1 hs5
          go_wp2
          obtain ⟨wi, hwi⟩ : ∃ wi : World, wi = wr := ⟨_, rfl⟩
          rw [← hwi] at hx HD HS5 d0
          have y0 : ∀ z : ExtOf wi, z.1.cell? ⟨b, off + k * 2, none⟩ = _ := fun z => z.2.cell HD.out.1
          have y1 : ∀ z : ExtOf wi, z.1.cell? ⟨b, off + k * 2 + 1, none⟩ = _ := fun z => z.2.cell HD.out.2
          have Y0 := hid y0
          have Y1 := hid y1
          clear y0 y1 d0
          go_loopw [13, 14] (fun t q wq => ∃ p : Nat, p ≤ xs.length ∧ q = .int .i64 p ∧ t = .bool (hasId (xs.take p) e.id) ∧ Ext wi wq) (fun _ q _ => xs.length - (intOf q).toNat)
          case atStart => exact ⟨0, Nat.zero_le _, rfl, rfl, by rw [hwi]; exact Ext.refl _⟩
          case round =>
            obtain ⟨p, hp, rfl, rfl, hxq⟩ := hrel
            have hxx := hx.trans hxq
            by_cases hpl : p < xs.length
            · have HST := hid (hasId_take (x := e.id) hpl)
              obtain ⟨b2, off2, A6, c6, eA, hI6, hs6, q0, q1⟩ := (s1.mono hxx).ent hpl
              cases eA
              obtain ⟨o, ho⟩ : ∃ o, o = xs[p] := ⟨_, rfl⟩
              have hom : o ∈ xs := by rw [ho]; exact List.getElem_mem hpl
              rw [← ho] at q0 q1 hs6 HST
              have HKK := hid (fun hm : o.members = e.members => HK.out o e hom hem hm)
              clear ho hom hI6
              have z0 : ∀ z : ExtOf wr, z.1.cell? ⟨b2, off2 + p * 2, none⟩ = _ := fun z => z.2.cell q0
              have z1 : ∀ z : ExtOf wr, z.1.cell? ⟨b2, off2 + p * 2 + 1, none⟩ = _ := fun z => z.2.cell q1
              have y0 : ∀ z : ExtOf wr, z.1.cell? ⟨b, off + k * 2, none⟩ = _ := fun z => Y0.out ⟨z.1, hxq.trans z.2⟩
              have y1 : ∀ z : ExtOf wr, z.1.cell? ⟨b, off + k * 2 + 1, none⟩ = _ := fun z => Y1.out ⟨z.1, hxq.trans z.2⟩
              clear q0 q1
              obtain ⟨t, ht⟩ : ∃ t, t = hasId (xs.take p) e.id := ⟨_, rfl⟩
              rw [← ht] at HST ⊢
              have HB := hid (show ∃ t2, hasId (xs.take (p + 1)) e.id = t2 ∧ (t = true → t2 = true) ∧ (t = false → t2 = (o.id == e.id)) from ⟨_, rfl, fun h => by rw [HST.out, h]; rfl, fun h => by rw [HST.out, h]; rfl⟩)
              clear HST ht
              obtain ⟨t2, ht2, ht3, ht4⟩ := HB.out
              have HT2 := hid ht2
              clear ht2 HB
              by_cases hm : o.members = e.members
              · have e1 : eqB o.members e.members = true := eqB_true hm
                have e2 : (o.id != e.id) = false := by simp [HKK.out hm]
                clear hm HKK
                cases t with
                | true =>
                  obtain rfl := ht3 rfl
                  clear ht3 ht4
                  go_wp2_with fail
                  refine wp_region_ext (by kernel_rfl) (by kernel_rfl) ?_
                  repeat (go_big_quiet_step ((fail)))
                  refine wpQuiet_nil ?_
                  rintro w7 ⟨⟨_, x7⟩, rfl⟩
                  have u0 : ∀ z : ExtOf w7, z.1.cell? ⟨b2, off2 + p * 2, none⟩ = _ := fun z => z0 ⟨z.1, x7.trans z.2⟩
                  have u1 : ∀ z : ExtOf w7, z.1.cell? ⟨b2, off2 + p * 2 + 1, none⟩ = _ := fun z => z1 ⟨z.1, x7.trans z.2⟩
                  have u2 : ∀ z : ExtOf w7, z.1.cell? ⟨b, off + k * 2, none⟩ = _ := fun z => y0 ⟨z.1, x7.trans z.2⟩
                  have u3 : ∀ z : ExtOf w7, z.1.cell? ⟨b, off + k * 2 + 1, none⟩ = _ := fun z => y1 ⟨z.1, x7.trans z.2⟩
                  clear z0 z1 y0 y1
                  go_wp2_with fail
                  refine wp_region_ext (by kernel_rfl) (by kernel_rfl) ?_
                  repeat (go_big_quiet_step ((first | (go_at_call 21; exact quiet_ext (Calls.mono (laws_sameInts _ _ o.members e.members _ (hs6.mono (x7.trans (Subtype.property _))) (HS5.out.mono ((hxq.trans x7).trans (Subtype.property _)))) fun _ _ h9 => ⟨h9.1.trans (ret_bool e1), h9.2⟩)))))
                  refine wpQuiet_nil ?_
                  rintro w8 ⟨⟨_, x8⟩, rfl⟩
                  go_wp2
                  go_roundw
                  case rel => exact ⟨p + 1, by omega, by go_num, by rw [HT2.out], (hxq.trans x7).trans x8⟩
                  case measure => simp [intOf]; omega
                | false =>
                  have ht5 := ht4 rfl
                  clear ht3 ht4
                  obtain ⟨d, hd⟩ : ∃ d, d = (o.id == e.id) := ⟨_, rfl⟩
                  rw [← hd] at ht5
                  subst ht5
                  have hd2 : (o.id == e.id) = t2 := hd.symm
                  clear hd
                  go_wp2_with fail
                  refine wp_region_ext (by kernel_rfl) (by kernel_rfl) ?_
                  repeat (go_big_quiet_step ((fail)))
                  refine wpQuiet_nil ?_
                  rintro w7 ⟨⟨_, x7⟩, rfl⟩
                  clear hd2
                  have u0 : ∀ z : ExtOf w7, z.1.cell? ⟨b2, off2 + p * 2, none⟩ = _ := fun z => z0 ⟨z.1, x7.trans z.2⟩
                  have u1 : ∀ z : ExtOf w7, z.1.cell? ⟨b2, off2 + p * 2 + 1, none⟩ = _ := fun z => z1 ⟨z.1, x7.trans z.2⟩
                  have u2 : ∀ z : ExtOf w7, z.1.cell? ⟨b, off + k * 2, none⟩ = _ := fun z => y0 ⟨z.1, x7.trans z.2⟩
                  have u3 : ∀ z : ExtOf w7, z.1.cell? ⟨b, off + k * 2 + 1, none⟩ = _ := fun z => y1 ⟨z.1, x7.trans z.2⟩
                  clear z0 z1 y0 y1
                  go_wp2_with fail
                  refine wp_region_ext (by kernel_rfl) (by kernel_rfl) ?_
                  repeat (go_big_quiet_step ((first | (go_at_call 21; exact quiet_ext (Calls.mono (laws_sameInts _ _ o.members e.members _ (hs6.mono (x7.trans (Subtype.property _))) (HS5.out.mono ((hxq.trans x7).trans (Subtype.property _)))) fun _ _ h9 => ⟨h9.1.trans (ret_bool e1), h9.2⟩)))))
                  refine wpQuiet_nil ?_
                  rintro w8 ⟨⟨_, x8⟩, rfl⟩
                  go_wp2
                  go_roundw
                  case rel => exact ⟨p + 1, by omega, by go_num, by rw [HT2.out], (hxq.trans x7).trans x8⟩
                  case measure => simp [intOf]; omega
              · have e1 : eqB o.members e.members = false := eqB_false hm
                clear hm HKK
                cases t with
                | true =>
                  obtain rfl := ht3 rfl
                  clear ht3 ht4
                  go_wp2_with fail
                  refine wp_region_ext (by kernel_rfl) (by kernel_rfl) ?_
                  repeat (go_big_quiet_step ((fail)))
                  refine wpQuiet_nil ?_
                  rintro w7 ⟨⟨_, x7⟩, rfl⟩
                  have u0 : ∀ z : ExtOf w7, z.1.cell? ⟨b2, off2 + p * 2, none⟩ = _ := fun z => z0 ⟨z.1, x7.trans z.2⟩
                  have u1 : ∀ z : ExtOf w7, z.1.cell? ⟨b2, off2 + p * 2 + 1, none⟩ = _ := fun z => z1 ⟨z.1, x7.trans z.2⟩
                  have u2 : ∀ z : ExtOf w7, z.1.cell? ⟨b, off + k * 2, none⟩ = _ := fun z => y0 ⟨z.1, x7.trans z.2⟩
                  have u3 : ∀ z : ExtOf w7, z.1.cell? ⟨b, off + k * 2 + 1, none⟩ = _ := fun z => y1 ⟨z.1, x7.trans z.2⟩
                  clear z0 z1 y0 y1
                  go_wp2_with fail
                  refine wp_region_ext (by kernel_rfl) (by kernel_rfl) ?_
                  repeat (go_big_quiet_step ((first | (go_at_call 21; exact quiet_ext (Calls.mono (laws_sameInts _ _ o.members e.members _ (hs6.mono (x7.trans (Subtype.property _))) (HS5.out.mono ((hxq.trans x7).trans (Subtype.property _)))) fun _ _ h9 => ⟨h9.1.trans (ret_bool e1), h9.2⟩)))))
                  refine wpQuiet_nil ?_
                  rintro w8 ⟨⟨_, x8⟩, rfl⟩
                  go_wp2
                  go_roundw
                  case rel => exact ⟨p + 1, by omega, by go_num, by rw [HT2.out], (hxq.trans x7).trans x8⟩
                  case measure => simp [intOf]; omega
                | false =>
                  have ht5 := ht4 rfl
                  clear ht3 ht4
                  obtain ⟨d, hd⟩ : ∃ d, d = (o.id == e.id) := ⟨_, rfl⟩
                  rw [← hd] at ht5
                  subst ht5
                  have hd2 : (o.id == e.id) = t2 := hd.symm
                  clear hd
                  go_wp2_with fail
                  refine wp_region_ext (by kernel_rfl) (by kernel_rfl) ?_
                  repeat (go_big_quiet_step ((fail)))
                  refine wpQuiet_nil ?_
                  rintro w7 ⟨⟨_, x7⟩, rfl⟩
                  clear hd2
                  have u0 : ∀ z : ExtOf w7, z.1.cell? ⟨b2, off2 + p * 2, none⟩ = _ := fun z => z0 ⟨z.1, x7.trans z.2⟩
                  have u1 : ∀ z : ExtOf w7, z.1.cell? ⟨b2, off2 + p * 2 + 1, none⟩ = _ := fun z => z1 ⟨z.1, x7.trans z.2⟩
                  have u2 : ∀ z : ExtOf w7, z.1.cell? ⟨b, off + k * 2, none⟩ = _ := fun z => y0 ⟨z.1, x7.trans z.2⟩
                  have u3 : ∀ z : ExtOf w7, z.1.cell? ⟨b, off + k * 2 + 1, none⟩ = _ := fun z => y1 ⟨z.1, x7.trans z.2⟩
                  clear z0 z1 y0 y1
                  go_wp2_with fail
                  refine wp_region_ext (by kernel_rfl) (by kernel_rfl) ?_
                  repeat (go_big_quiet_step ((first | (go_at_call 21; exact quiet_ext (Calls.mono (laws_sameInts _ _ o.members e.members _ (hs6.mono (x7.trans (Subtype.property _))) (HS5.out.mono ((hxq.trans x7).trans (Subtype.property _)))) fun _ _ h9 => ⟨h9.1.trans (ret_bool e1), h9.2⟩)))))
                  refine wpQuiet_nil ?_
                  rintro w8 ⟨⟨_, x8⟩, rfl⟩
                  go_wp2
                  go_roundw
                  case rel => exact ⟨p + 1, by omega, by go_num, by rw [HT2.out], (hxq.trans x7).trans x8⟩
                  case measure => simp [intOf]; omega
            · rw [List.take_of_length_le (by omega)]
              have y0 : ∀ z : ExtOf wr, z.1.cell? ⟨b, off + k * 2, none⟩ = _ := fun z => Y0.out ⟨z.1, hxq.trans z.2⟩
              have c0 : wr.cell? ⟨b, off + k * 2, none⟩ = some (.int .i64 e.id) := y0 ⟨wr, Ext.refl _⟩
              cases ht : hasId xs e.id with
              | true =>
                clear ht
                go_wp2
                go_roundw
                case rel => exact ⟨k + 1, by omega, by go_num, hxx⟩
                case measure => simp [intOf]; omega
              | false =>
                have hge := F4.out e hem (hasId_no ht)
                have hlt8 : ¬ e.id < n := by omega
                clear ht
                go_wp2
                go_roundw
                case rel => exact ⟨k + 1, by omega, by go_num, hxx⟩
                case measure => simp [intOf]; omega
        · go_wp2
          go_ret
          exact ⟨rfl, xw.trans hx⟩
end Go.Proofs.Ytfcbapaojoecgab
