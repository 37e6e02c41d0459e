/-
  WALK: SplitVerdicts (the reference's).
-/
import Derived.Test.YtmembjjgkideeaaMgEndSpl17
import Derived.Test.YtmembjjgkideeaaMgEndSpl14
import Derived.Test.YtmembjjgkideeaaMgEndSpl12
import Derived.Test.YtmembjjgkideeaaMgEndSpl13
import Derived.Test.YtmembjjgkideeaaMgEndSpl11
import Derived.Test.YtmembjjgkideeaaMgEndSpl9

namespace Go.Proofs.Ytmembjjgkideeaa
open Go.RowKit

theorem Bld.stay {w w2 : World} {base : Nat} {e : TypeId} {v : Value} {xs : List Verdict} (h : Bld verdictO w base e v xs []) (hk : ∀ b, v.ownBlock = some b → w2.heap[b]? = w.heap[b]?) : Bld verdictO w2 base e v xs [] := by
  obtain ⟨cs, h1, h2, h3, h4, h5⟩ := h
  refine ⟨cs, ⟨h1.1, ?_⟩, h2.keep (fun b hb => by cases hb), h3, h4, h5⟩
  rcases h1.2 with h | ⟨g', cap, cur, rfl, hb, hh, hr⟩
  · exact .inl h
  · exact .inr ⟨g', cap, cur, rfl, hb, (hk g' rfl).trans hh, hr⟩
theorem cantV_step {cur : List Verdict} {k : Nat} (h : k < cur.length) : cantV (cur.take (k + 1)) = if cur[k].same = true then cantV (cur.take k) else cantV (cur.take k) ++ [cur[k]] := by
  unfold cantV
  rw [List.take_succ_eq_append_getElem h, List.filter_append]
  cases hs : cur[k].same with
  | true => rw [if_pos rfl, List.filter_cons_of_neg (by simp [hs])]; simp
  | false => rw [if_neg (by decide), List.filter_cons_of_pos (by simp [hs])]; rfl
theorem mustK_step {cur : List Verdict} {k : Nat} (h : k < cur.length) : sortK lateF ((cur.take (k + 1)).filter fun v => v.same) = if cur[k].same = true then insK lateF (sortK lateF ((cur.take k).filter fun v => v.same)) cur[k] else sortK lateF ((cur.take k).filter fun v => v.same) := by
  rw [List.take_succ_eq_append_getElem h, List.filter_append]
  cases hs : cur[k].same with
  | true =>
    rw [if_pos rfl, List.filter_cons_of_pos (by simp [hs])]
    unfold sortK
    rw [List.foldl_append]
    rfl
  | false => rw [if_neg (by decide), List.filter_cons_of_neg (by simp [hs])]; simp
theorem cantV_len (l : List Verdict) : (cantV l).length ≤ l.length := by unfold cantV; exact List.length_filter_le _ _
theorem addV_lenS (l : List Verdict) (v : Verdict) : (addV l v).1.length ≤ l.length + 1 := by
  unfold addV
  split
  · show (putV l v).length ≤ _
    rw [putV_len]; exact Nat.le_refl _
  · exact Nat.le_succ _
theorem stR_yes {c : List Verdict} {g : List (List Int)} {kept ref : List Verdict} {v : Verdict} (h : apartG (joinG g v.a v.b) c = true) : stR c (g, kept, ref) v = (joinG g v.a v.b, (addV (sortS kept) v).1, ref) := by unfold stR; rw [if_pos h]
theorem stR_no {c : List Verdict} {g : List (List Int)} {kept ref : List Verdict} {v : Verdict} (h : apartG (joinG g v.a v.b) c = false) : stR c (g, kept, ref) v = (g, kept, ref ++ [v]) := by unfold stR; rw [if_neg (by show ¬ apartG (joinG g v.a v.b) c = true; rw [h]; decide)]
theorem mustV_len (l : List Verdict) : (mustV l).length ≤ l.length := by
  unfold mustV
  rw [sortK_len]
  exact List.length_filter_le _ _

set_option maxHeartbeats 4000000 in
set_option maxRecDepth 20000 in
theorem spec_SplitVerdicts (v : Value) (xs : List Verdict) (w : World) (h : Sl verdictR w v xs) (hl : xs.length ≤ 1048576) :
    Calls Try.prog 8 #[v] w fun e w2 => ∃ v1 v2 F1 F2, e = .returned (.tuple #[v1, v2]) ∧ OwnSl verdictO w2 v1 (splitR xs).1 F1 ∧ OwnSl verdictO w2 v2 (splitR xs).2 F2 ∧ NewF w (F1 ++ F2) ∧ Ext w w2 := by
  obtain ⟨hn, hok, h8⟩ := curV_facts xs
  obtain ⟨cur, hcur⟩ : ∃ c, c = curV xs := ⟨_, rfl⟩
  have HSP := hid (show splitR xs = (sortS ((mustV cur).foldl (stR (cantV cur)) ([], cantV cur, [])).2.1, sortS ((mustV cur).foldl (stR (cantV cur)) ([], cantV cur, [])).2.2) from by rw [hcur]; rfl)
  have HCU := hid (spec_CurrentVerdicts v xs w h)
  rw [← hcur] at hok h8 HCU
  clear hn hcur
  go_enter Try.func8, Try.ntmps8
  go_wp2_with fail
  refine (HCU.out).mono ?_
  rintro e w1 ⟨v1, FC, rfl, o1, _, x1⟩
  have hC := o1.sl
  obtain ⟨A1, c1, e1, _⟩ := hC.form
  subst e1
  have HOC := hid o1
  have HX1 := hid x1
  have hb1 : Bld verdictO ((w1.alloc (.cells #[] 32)).alloc (.cells #[] 32)) w1.heap.size 32 (.slice (some ⟨w1.heap.size, 0, none⟩) 0 0) [] [] := (Bld.lit w1 (Nat.le_refl _) _).ext ((Ext.refl _).alloc _)
  have hb2 : Bld verdictO ((w1.alloc (.cells #[] 32)).alloc (.cells #[] 32)) w1.heap.size 32 (.slice (some ⟨w1.heap.size + 1, 0, none⟩) 0 0) [] [] := by
    have := Bld.lit (R := verdictO) (w1.alloc (.cells #[] 32)) (base := w1.heap.size) (by simp) 32
    rwa [World.size_alloc] at this
  have x2 : Ext w1 ((w1.alloc (.cells #[] 32)).alloc (.cells #[] 32)) := ((Ext.refl _).alloc _).alloc _
  clear o1 x1
  go_wp2_with fail
  go_loopw [5, 6, 7] (fun t5 t6 i wr => ∃ (k bm om cm : Nat) (must : List Verdict), k ≤ cur.length ∧ i = .int .i64 k ∧ Bld verdictO wr w1.heap.size 32 t5 (cantV (cur.take k)) [] ∧ t6 = .slice (some ⟨bm, om, none⟩) must.length cm ∧ Bld verdictO wr w1.heap.size 32 t6 must [] ∧ sortK lateF ((cur.take k).filter fun v => v.same) = must ∧ t5.ownBlock ≠ some bm ∧ Ext w1 wr) (fun _ _ i _ => cur.length - (intOf i).toNat)
  case atStart => exact ⟨0, _, _, _, [], Nat.zero_le _, rfl, hb1, rfl, hb2, rfl, (by simp [Value.ownBlock]), x2⟩
  case round =>
    clear hb1 hb2 x2
    obtain ⟨k, bo, oo, cm, must, hk, rfl, hB5, rfl, hB6, hmu, hD, hx⟩ := hrel
    have hml : must.length ≤ 8 := by rw [← hmu, sortK_len]; have := List.length_filter_le (fun v : Verdict => v.same) (cur.take k); rw [List.length_take] at this; omega
    have HOUT := hid hmu
    clear hmu
    by_cases hlt : k < cur.length
    · obtain ⟨b, off, eA, hokk, c0, c1', c2, c3⟩ := (hC.mono hx).verdict hlt
      subst eA
      have HST := hid (cantV_step hlt)
      have HST2 := hid (mustK_step hlt)
      have HOKX := hid hokk
      obtain ⟨sm, hsm⟩ : ∃ sm, sm = cur[k].same := ⟨_, rfl⟩
      cases sm with
      | false =>
        have HCA := hid (show cantV (cur.take (k + 1)) = cantV (cur.take k) ++ [cur[k]] from by have := HST.out; rwa [← hsm, if_neg (by decide)] at this)
        have HMU := hid (show sortK lateF ((cur.take (k + 1)).filter fun v => v.same) = must from by have := HST2.out; rwa [← hsm, if_neg (by decide), HOUT.out] at this)
        rw [← hsm] at c2
        have HVV := hid (show verdictO.own wr #[.int .i64 cur[k].a, .int .i64 cur[k].b, .bool false, .int .i64 cur[k].time].toList cur[k] [] from ⟨⟨by rw [hsm]; rfl, hokk⟩, rfl⟩)
        have HLN := hid (show (cantV (cur.take k)).length + 1 ≤ 1099511627776 from by have := cantV_len (cur.take k); rw [List.length_take] at this; omega)
        clear hsm hokk
        go_wp2_with (at_builtin; refine wpList_app1h (R := verdictO) elemVer (by decide) rfl _ _ rfl hB5 rfl _ 1 rfl (by simp) (one_ver _ _ _ _) (y := cur[k]) HVV.out fresh_nil HLN.out (by decide) hx.size ?_; intro v9 w9 hB9 hE9 hA9)
        go_roundw
        case rel => exact ⟨k + 1, bo, oo, cm, must, by omega, by go_num, by rw [HCA.out]; exact hB9, rfl, hB6.stay fun b hb => hA9.keep b (hB6.lt.2 b hb).1 fun e => hD (e.trans hb.symm), HMU.out, fun e => by
          rcases hA9.own bo e with e | e
          · exact hD e
          · have := (hB6.lt.2 bo rfl).1; omega, hE9 w1 (Nat.le_refl _) hx⟩
        case measure => simp [intOf]; omega
      | true =>
        have HCA := hid (show cantV (cur.take (k + 1)) = cantV (cur.take k) from by have := HST.out; rwa [← hsm, if_pos rfl] at this)
        have HMU := hid (show sortK lateF ((cur.take (k + 1)).filter fun v => v.same) = insK lateF (sortK lateF ((cur.take k).filter fun v => v.same)) cur[k] from by have := HST2.out; rwa [← hsm, if_pos rfl] at this)
        rw [← hsm] at c2
        have HVV := hid hsm
        clear hsm hokk
        obtain ⟨w0, hw0⟩ : ∃ w0, w0 = wr := ⟨_, rfl⟩
        rw [← hw0] at hB5 hB6 hx c0 c1' c2 c3 ⊢
        clear hw0
        have HCK := hid (show ∀ W, Ext w0 W → W.cell? ⟨b, off + k * 4, none⟩ = some (.int .i64 cur[k].a) ∧ W.cell? ⟨b, off + k * 4 + 1, none⟩ = some (.int .i64 cur[k].b) ∧ W.cell? ⟨b, off + k * 4 + 2, none⟩ = some (.bool cur[k].same) ∧ W.cell? ⟨b, off + k * 4 + 3, none⟩ = some (.int .i64 cur[k].time) from fun W y => ⟨y.cell c0, y.cell c1', y.cell (by rw [← HVV.out]; exact c2), y.cell c3⟩)
        have HSO := hid (show ∀ W, Ext w0 W → Sl verdictR W (.slice (some ⟨bo, oo, none⟩) must.length cm) must from fun W y => (hB6.ext y).sl)
        have HX := hid hx
        have HB5 := hid hB5
        clear hB5 hB6 hx c0 c1' c3
        go_wp2_with fail
        go_loopw [8] (fun j wi => ∃ q : Nat, q ≤ must.length ∧ j = .int .i64 q ∧ (∀ x ∈ must.drop q, lateF cur[k] < lateF x) ∧ Ext w0 wi) (fun j _ => (intOf j).toNat)
        case atStart => exact ⟨must.length, Nat.le_refl _, rfl, (fun x hx => by rw [List.drop_length] at hx; cases hx), Ext.refl _⟩
        case round =>
          clear c2
          obtain ⟨q, hq, rfl, hal, hxi⟩ := hrel
          have HAL := hid hal
          clear hal
          by_cases hq0 : 0 < q
          · have hlt1 : q - 1 < must.length := by omega
            obtain ⟨b2, off2, e2, _, d0, d1, d2, d3⟩ := (HSO.out _ hxi).verdict hlt1
            injection e2 with e2
            injection e2 with e3 e4 _
            subst e3; subst e4
            have hsub : ((q - 1 : Nat) : Int) = (q : Int) - 1 := by omega
            have y3 : ∀ z : ExtOf wr, z.1.cell? ⟨b, off + k * 4 + 3, none⟩ = some (.int .i64 cur[k].time) := fun z => (HCK.out _ (hxi.trans z.2)).2.2.2
            have z3 : ∀ z : ExtOf wr, z.1.cell? ⟨bo, oo + (q - 1) * 4 + 3, none⟩ = _ := fun z => z.2.cell d3
            clear d0 d1 d2 d3
            by_cases hpos : must[q - 1].time < cur[k].time
            · have hpB : decide (must[q - 1].time < cur[k].time) = true := by simp [hpos]
              have HDR := hid (show ∀ x ∈ must.drop (q - 1), lateF cur[k] < lateF x from by
                intro x hx
                have e : must.drop (q - 1) = must[q - 1] :: must.drop q := by
                  rw [← List.getElem_cons_drop (h := hlt1)]; congr 2; omega
                rw [e] at hx
                rcases List.mem_cons.1 hx with rfl | hx
                · unfold lateF; omega
                · exact HAL.out x hx)
              clear hpos
              go_wp2_with fail
              refine wp_region_ext (by kernel_rfl) (by kernel_rfl) ?_
              repeat (go_big_quiet_step ((fail)))
              refine wpQuiet_nil ?_
              rintro w6 ⟨⟨_, x6⟩, rfl⟩
              go_wp2
              go_roundw
              case rel => exact ⟨q - 1, by omega, by rw [hsub]; try go_num, HDR.out, hxi.trans x6⟩
              case measure => simp [intOf]; omega
            · have hpB : decide (must[q - 1].time < cur[k].time) = false := by simp [hpos]
              have HCN := hid (cntK_eq lateF (v := cur[k]) hq HAL.out (fun _ => by unfold lateF; omega))
              clear hpos
              go_wp2_with fail
              refine wp_region_ext (by kernel_rfl) (by kernel_rfl) ?_
              repeat (go_big_quiet_step ((fail)))
              refine wpQuiet_nil ?_
              rintro w6 ⟨⟨_, x6⟩, rfl⟩
              clear y3 z3 hpB
              have HCNT := hid (show insK lateF must cur[k] = must.take q ++ [cur[k]] ++ must.drop q from by
                have := HCN.out
                unfold insK
                rw [this]
                simp)
              obtain ⟨wq, hwq⟩ : ∃ wq, wq = w6 := ⟨_, rfl⟩
              rw [← hwq] at x6 ⊢
              clear hwq
              have xq : Ext w0 wq := hxi.trans x6
              have HBQ := hid (show ∀ W, Ext wq W → W.cell? ⟨b, off + k * 4, none⟩ = some (.int .i64 cur[k].a) ∧ W.cell? ⟨b, off + k * 4 + 1, none⟩ = some (.int .i64 cur[k].b) ∧ W.cell? ⟨b, off + k * 4 + 2, none⟩ = some (.bool cur[k].same) ∧ W.cell? ⟨b, off + k * 4 + 3, none⟩ = some (.int .i64 cur[k].time) from fun W y => HCK.out _ (xq.trans y))
              have hcap := (HSO.out wq xq).cap_
              have HTK := hid (fun (W : World) (y : Ext wq W) => (HSO.out W (xq.trans y)).take (k := q) hq)
              obtain ⟨A2, hA2, HTD⟩ := (HSO.out wq xq).tailv q hq
              have HL1 := hid (show ([] : List Verdict).length + (must.take q).length ≤ 1099511627776 by simp only [List.length_nil, List.length_take]; omega)
              have HL2 := hid (show (must.take q).length + 1 ≤ 1099511627776 by rw [List.length_take]; omega)
              have HL3 := hid (show (must.take q ++ [cur[k]]).length + (must.drop q).length ≤ 1099511627776 by simp only [List.length_append, List.length_take, List.length_drop, List.length_cons, List.length_nil]; omega)
              have a1 : q ≤ cm := by omega
              have a2 : (q : Int) ≤ (must.length : Int) := by omega
              have a3 : (q : Int) ≤ (cm : Int) := by omega
              have HX9 := hid (HX.out.trans xq)
              have HQ := hid hq
              have HWS := hid (Nat.le_trans (HX.out.trans xq).size (Nat.le_refl wq.heap.size))
              have HB5Q := hid (HB5.out.ext xq)
              clear hcap x6 hq hxi xq
              go_wp2_with fail
              have HE1 := hid (show (wq.alloc (.cells #[] 32)).heap[wq.heap.size]? = some (.cells #[] 32 (0, 0)) from heap_alloc_new wq _)
              have HE2 := hid (show ((wq.alloc (.cells #[] 32)).alloc (.cells #[.int .i64 cur[k].a, .int .i64 cur[k].b, .bool cur[k].same, .int .i64 cur[k].time] 32)).heap[wq.heap.size]? = some (.cells #[] 32 (0, 0)) from (((Ext.refl (wq.alloc (.cells #[] 32))).alloc _).block (by simp)).trans (heap_alloc_new wq _))
              have HV2 := hid (show ((wq.alloc (.cells #[] 32)).alloc (.cells #[.int .i64 cur[k].a, .int .i64 cur[k].b, .bool cur[k].same, .int .i64 cur[k].time] 32)).heap[wq.heap.size + 1]? = some (.cells #[.int .i64 cur[k].a, .int .i64 cur[k].b, .bool cur[k].same, .int .i64 cur[k].time] 32 (0, 0)) from by have := heap_alloc_new (wq.alloc (.cells #[] 32)) (.cells #[.int .i64 cur[k].a, .int .i64 cur[k].b, .bool cur[k].same, .int .i64 cur[k].time] 32); rwa [World.size_alloc] at this)
              have HE3 := hid (show ((wq.alloc (.cells #[.int .i64 cur[k].a, .int .i64 cur[k].b, .bool cur[k].same, .int .i64 cur[k].time] 32)).alloc (.cells #[] 32)).heap[wq.heap.size + 1]? = some (.cells #[] 32 (0, 0)) from by have := heap_alloc_new (wq.alloc (.cells #[.int .i64 cur[k].a, .int .i64 cur[k].b, .bool cur[k].same, .int .i64 cur[k].time] 32)) (.cells #[] 32); rwa [World.size_alloc] at this)
              have HV3 := hid (show ((wq.alloc (.cells #[.int .i64 cur[k].a, .int .i64 cur[k].b, .bool cur[k].same, .int .i64 cur[k].time] 32)).alloc (.cells #[] 32)).heap[wq.heap.size]? = some (.cells #[.int .i64 cur[k].a, .int .i64 cur[k].b, .bool cur[k].same, .int .i64 cur[k].time] 32 (0, 0)) from (((Ext.refl (wq.alloc (.cells #[.int .i64 cur[k].a, .int .i64 cur[k].b, .bool cur[k].same, .int .i64 cur[k].time] 32))).alloc _).block (by simp)).trans (heap_alloc_new wq _))
              go_region_held3 (fun w' => w'.cell? ⟨b, off + k * 4, none⟩ = some (.int .i64 cur[k].a) ∧ w'.cell? ⟨b, off + k * 4 + 1, none⟩ = some (.int .i64 cur[k].b) ∧ w'.cell? ⟨b, off + k * 4 + 2, none⟩ = some (.bool cur[k].same) ∧ w'.cell? ⟨b, off + k * 4 + 3, none⟩ = some (.int .i64 cur[k].time)) (exact HBQ.out _ (by repeat (first | with_reducible exact Ext.refl _ | with_reducible assumption | with_reducible refine Ext.drew ?_ | with_reducible refine Ext.alloc ?_ _ | with_reducible refine Ext.trans ?_ (by with_reducible assumption)))) (first | (have hsecond := hB2; refine step_appv elemVer (by decide) rfl _ _ rfl hB2 rfl rfl (HTD.out _ (by repeat (first | with_reducible exact Ext.refl _ | with_reducible assumption | with_reducible refine Ext.drew ?_ | with_reducible refine Ext.alloc ?_ _ | with_reducible refine Ext.trans ?_ (by with_reducible assumption)))) HL3.out xs2.size (w0 := wq) (Nat.le_refl _) xs2 ?_; intro v6 w6 hB3 xs3 _) | (refine step_app1 (R := verdictO) elemVer (by decide) rfl _ _ rfl (hB1.ext ((Ext.refl w4).alloc (.cells #[.int .i64 cur[k].a, .int .i64 cur[k].b, .bool cur[k].same, .int .i64 cur[k].time] 32))) rfl w4.heap.size 1 rfl (heap_alloc_new w4 _) (one_ver _ _ _ _) (y := cur[k]) ⟨⟨rfl, HOKX.out⟩, rfl⟩ fresh_nil HL2.out (by decide) (by rw [World.size_alloc]; have := xs1.size; omega) (w0 := wq) (Nat.le_refl _) (by repeat (first | with_reducible exact Ext.refl _ | with_reducible assumption | with_reducible refine Ext.drew ?_ | with_reducible refine Ext.alloc ?_ _ | with_reducible refine Ext.trans ?_ (by with_reducible assumption))) ?_; intro v5 w5 hB2 xs2) | (refine step_app1 (R := verdictO) elemVer (by decide) rfl _ _ rfl (hB1) rfl (wq.heap.size + 1) 1 rfl ((hk1 _ (by simp <;> omega) (by simp [Value.ownBlock])).trans HV2.out) (one_ver _ _ _ _) (y := cur[k]) ⟨⟨rfl, HOKX.out⟩, rfl⟩ fresh_nil HL2.out (by decide) xs1.size (w0 := wq) (Nat.le_refl _) (by repeat (first | with_reducible exact Ext.refl _ | with_reducible assumption | with_reducible refine Ext.drew ?_ | with_reducible refine Ext.alloc ?_ _ | with_reducible refine Ext.trans ?_ (by with_reducible assumption))) ?_; intro v5 w5 hB2 xs2) | (refine step_app1 (R := verdictO) elemVer (by decide) rfl _ _ rfl (hB1) rfl wq.heap.size 1 rfl ((hk1 _ (by simp <;> omega) (by simp [Value.ownBlock])).trans HV3.out) (one_ver _ _ _ _) (y := cur[k]) ⟨⟨rfl, HOKX.out⟩, rfl⟩ fresh_nil HL2.out (by decide) xs1.size (w0 := wq) (Nat.le_refl _) (by repeat (first | with_reducible exact Ext.refl _ | with_reducible assumption | with_reducible refine Ext.drew ?_ | with_reducible refine Ext.alloc ?_ _ | with_reducible refine Ext.trans ?_ (by with_reducible assumption))) ?_; intro v5 w5 hB2 xs2) | (refine step_appv elemVer (by decide) rfl _ _ rfl (Bld.empv (R := verdictO) (base := wq.heap.size) (Nat.le_refl _) HE1.out) rfl rfl (HTK.out _ (by repeat (first | with_reducible exact Ext.refl _ | with_reducible assumption | with_reducible refine Ext.drew ?_ | with_reducible refine Ext.alloc ?_ _ | with_reducible refine Ext.trans ?_ (by with_reducible assumption)))) HL1.out (by simp <;> omega) (w0 := wq) (Nat.le_refl _) (by repeat (first | with_reducible exact Ext.refl _ | with_reducible assumption | with_reducible refine Ext.drew ?_ | with_reducible refine Ext.alloc ?_ _ | with_reducible refine Ext.trans ?_ (by with_reducible assumption))) ?_; intro v4 w4 hB1 xs1 hk1; rw [List.nil_append] at hB1) | (refine step_appv elemVer (by decide) rfl _ _ rfl (Bld.empv (R := verdictO) (base := wq.heap.size) (Nat.le_refl _) HE2.out) rfl rfl (HTK.out _ (by repeat (first | with_reducible exact Ext.refl _ | with_reducible assumption | with_reducible refine Ext.drew ?_ | with_reducible refine Ext.alloc ?_ _ | with_reducible refine Ext.trans ?_ (by with_reducible assumption)))) HL1.out (by simp <;> omega) (w0 := wq) (Nat.le_refl _) (by repeat (first | with_reducible exact Ext.refl _ | with_reducible assumption | with_reducible refine Ext.drew ?_ | with_reducible refine Ext.alloc ?_ _ | with_reducible refine Ext.trans ?_ (by with_reducible assumption))) ?_; intro v4 w4 hB1 xs1 hk1; rw [List.nil_append] at hB1) | (refine step_appv elemVer (by decide) rfl _ _ rfl (Bld.empv (R := verdictO) (base := wq.heap.size) (Nat.le_succ _) HE3.out) rfl rfl (HTK.out _ (by repeat (first | with_reducible exact Ext.refl _ | with_reducible assumption | with_reducible refine Ext.drew ?_ | with_reducible refine Ext.alloc ?_ _ | with_reducible refine Ext.trans ?_ (by with_reducible assumption)))) HL1.out (by simp <;> omega) (w0 := wq) (Nat.le_refl _) (by repeat (first | with_reducible exact Ext.refl _ | with_reducible assumption | with_reducible refine Ext.drew ?_ | with_reducible refine Ext.alloc ?_ _ | with_reducible refine Ext.trans ?_ (by with_reducible assumption))) ?_; intro v4 w4 hB1 xs1 hk1; rw [List.nil_append] at hB1))

              all_goals
                obtain ⟨A6, c6, e6, _⟩ := hB3.sl.form
                subst e6
                have HNE := hid (show ∃ b6 o6, A6 = some ⟨b6, o6, none⟩ from by
                  have hlen : 0 < (must.take q ++ [cur[k]] ++ must.drop q).length := by simp only [List.length_append, List.length_cons, List.length_nil]; omega
                  obtain ⟨b6, o6, _, e, _⟩ := hB3.sl.at_ hlen
                  exact ⟨b6, o6, e⟩)
                obtain ⟨b6, o6, e9⟩ := HNE.out
                subst e9
                clear HNE
                have HD9 := hid (show u5.ownBlock ≠ some b6 from fun e => by
                  have h1 := (HB5Q.out.lt.2 b6 e).1
                  have h2 := (hB3.lt.2 b6 rfl).2
                  omega)
                have HB3 := hid (hB3.lowv HWS.out)
                have HX6 := hid (HX9.out.trans xs3)
                have HB5R := hid (HB5Q.out.ext xs3)
                clear hB3 xs3
                go_wp2
                go_roundw
                case rel => exact ⟨k + 1, b6, o6, c6, insK lateF must cur[k], by omega, by go_num, by rw [HCA.out]; exact HB5R.out, by rw [HCNT.out], by rw [HCNT.out]; exact HB3.out, by rw [HMU.out, HOUT.out], HD9.out, HX6.out⟩
                case measure => simp [intOf]; omega
          · have hq00 : q = 0 := by omega
            have hjd1 : decide (0 < q) = false := by simpa using hq0
            have hjd2 : decide ((0 : Int) < (q : Int)) = false := by simp; omega
            have HCN := hid (cntK_eq lateF (v := cur[k]) hq HAL.out (fun h => absurd h hq0))
            clear hq0 hq00
            go_wp2_with fail
            refine wp_region_ext (by kernel_rfl) (by kernel_rfl) ?_
            repeat (go_big_quiet_step ((fail)))
            refine wpQuiet_nil ?_
            rintro w6 ⟨⟨_, x6⟩, rfl⟩
            clear hjd1 hjd2
            have HCNT := hid (show insK lateF must cur[k] = must.take q ++ [cur[k]] ++ must.drop q from by
              have := HCN.out
              unfold insK
              rw [this]
              simp)
            obtain ⟨wq, hwq⟩ : ∃ wq, wq = w6 := ⟨_, rfl⟩
            rw [← hwq] at x6 ⊢
            clear hwq
            have xq : Ext w0 wq := hxi.trans x6
            have HBQ := hid (show ∀ W, Ext wq W → W.cell? ⟨b, off + k * 4, none⟩ = some (.int .i64 cur[k].a) ∧ W.cell? ⟨b, off + k * 4 + 1, none⟩ = some (.int .i64 cur[k].b) ∧ W.cell? ⟨b, off + k * 4 + 2, none⟩ = some (.bool cur[k].same) ∧ W.cell? ⟨b, off + k * 4 + 3, none⟩ = some (.int .i64 cur[k].time) from fun W y => HCK.out _ (xq.trans y))
            have hcap := (HSO.out wq xq).cap_
            have HTK := hid (fun (W : World) (y : Ext wq W) => (HSO.out W (xq.trans y)).take (k := q) hq)
            obtain ⟨A2, hA2, HTD⟩ := (HSO.out wq xq).tailv q hq
            have HL1 := hid (show ([] : List Verdict).length + (must.take q).length ≤ 1099511627776 by simp only [List.length_nil, List.length_take]; omega)
            have HL2 := hid (show (must.take q).length + 1 ≤ 1099511627776 by rw [List.length_take]; omega)
            have HL3 := hid (show (must.take q ++ [cur[k]]).length + (must.drop q).length ≤ 1099511627776 by simp only [List.length_append, List.length_take, List.length_drop, List.length_cons, List.length_nil]; omega)
            have a1 : q ≤ cm := by omega
            have a2 : (q : Int) ≤ (must.length : Int) := by omega
            have a3 : (q : Int) ≤ (cm : Int) := by omega
            have HX9 := hid (HX.out.trans xq)
            have HQ := hid hq
            have HWS := hid (Nat.le_trans (HX.out.trans xq).size (Nat.le_refl wq.heap.size))
            have HB5Q := hid (HB5.out.ext xq)
            clear hcap x6 hq hxi xq
            go_wp2_with fail
            have HE1 := hid (show (wq.alloc (.cells #[] 32)).heap[wq.heap.size]? = some (.cells #[] 32 (0, 0)) from heap_alloc_new wq _)
            have HE2 := hid (show ((wq.alloc (.cells #[] 32)).alloc (.cells #[.int .i64 cur[k].a, .int .i64 cur[k].b, .bool cur[k].same, .int .i64 cur[k].time] 32)).heap[wq.heap.size]? = some (.cells #[] 32 (0, 0)) from (((Ext.refl (wq.alloc (.cells #[] 32))).alloc _).block (by simp)).trans (heap_alloc_new wq _))
            have HV2 := hid (show ((wq.alloc (.cells #[] 32)).alloc (.cells #[.int .i64 cur[k].a, .int .i64 cur[k].b, .bool cur[k].same, .int .i64 cur[k].time] 32)).heap[wq.heap.size + 1]? = some (.cells #[.int .i64 cur[k].a, .int .i64 cur[k].b, .bool cur[k].same, .int .i64 cur[k].time] 32 (0, 0)) from by have := heap_alloc_new (wq.alloc (.cells #[] 32)) (.cells #[.int .i64 cur[k].a, .int .i64 cur[k].b, .bool cur[k].same, .int .i64 cur[k].time] 32); rwa [World.size_alloc] at this)
            have HE3 := hid (show ((wq.alloc (.cells #[.int .i64 cur[k].a, .int .i64 cur[k].b, .bool cur[k].same, .int .i64 cur[k].time] 32)).alloc (.cells #[] 32)).heap[wq.heap.size + 1]? = some (.cells #[] 32 (0, 0)) from by have := heap_alloc_new (wq.alloc (.cells #[.int .i64 cur[k].a, .int .i64 cur[k].b, .bool cur[k].same, .int .i64 cur[k].time] 32)) (.cells #[] 32); rwa [World.size_alloc] at this)
            have HV3 := hid (show ((wq.alloc (.cells #[.int .i64 cur[k].a, .int .i64 cur[k].b, .bool cur[k].same, .int .i64 cur[k].time] 32)).alloc (.cells #[] 32)).heap[wq.heap.size]? = some (.cells #[.int .i64 cur[k].a, .int .i64 cur[k].b, .bool cur[k].same, .int .i64 cur[k].time] 32 (0, 0)) from (((Ext.refl (wq.alloc (.cells #[.int .i64 cur[k].a, .int .i64 cur[k].b, .bool cur[k].same, .int .i64 cur[k].time] 32))).alloc _).block (by simp)).trans (heap_alloc_new wq _))
            go_region_held3 (fun w' => w'.cell? ⟨b, off + k * 4, none⟩ = some (.int .i64 cur[k].a) ∧ w'.cell? ⟨b, off + k * 4 + 1, none⟩ = some (.int .i64 cur[k].b) ∧ w'.cell? ⟨b, off + k * 4 + 2, none⟩ = some (.bool cur[k].same) ∧ w'.cell? ⟨b, off + k * 4 + 3, none⟩ = some (.int .i64 cur[k].time)) (exact HBQ.out _ (by repeat (first | with_reducible exact Ext.refl _ | with_reducible assumption | with_reducible refine Ext.drew ?_ | with_reducible refine Ext.alloc ?_ _ | with_reducible refine Ext.trans ?_ (by with_reducible assumption)))) (first | (have hsecond := hB2; refine step_appv elemVer (by decide) rfl _ _ rfl hB2 rfl rfl (HTD.out _ (by repeat (first | with_reducible exact Ext.refl _ | with_reducible assumption | with_reducible refine Ext.drew ?_ | with_reducible refine Ext.alloc ?_ _ | with_reducible refine Ext.trans ?_ (by with_reducible assumption)))) HL3.out xs2.size (w0 := wq) (Nat.le_refl _) xs2 ?_; intro v6 w6 hB3 xs3 _) | (refine step_app1 (R := verdictO) elemVer (by decide) rfl _ _ rfl (hB1.ext ((Ext.refl w4).alloc (.cells #[.int .i64 cur[k].a, .int .i64 cur[k].b, .bool cur[k].same, .int .i64 cur[k].time] 32))) rfl w4.heap.size 1 rfl (heap_alloc_new w4 _) (one_ver _ _ _ _) (y := cur[k]) ⟨⟨rfl, HOKX.out⟩, rfl⟩ fresh_nil HL2.out (by decide) (by rw [World.size_alloc]; have := xs1.size; omega) (w0 := wq) (Nat.le_refl _) (by repeat (first | with_reducible exact Ext.refl _ | with_reducible assumption | with_reducible refine Ext.drew ?_ | with_reducible refine Ext.alloc ?_ _ | with_reducible refine Ext.trans ?_ (by with_reducible assumption))) ?_; intro v5 w5 hB2 xs2) | (refine step_app1 (R := verdictO) elemVer (by decide) rfl _ _ rfl (hB1) rfl (wq.heap.size + 1) 1 rfl ((hk1 _ (by simp <;> omega) (by simp [Value.ownBlock])).trans HV2.out) (one_ver _ _ _ _) (y := cur[k]) ⟨⟨rfl, HOKX.out⟩, rfl⟩ fresh_nil HL2.out (by decide) xs1.size (w0 := wq) (Nat.le_refl _) (by repeat (first | with_reducible exact Ext.refl _ | with_reducible assumption | with_reducible refine Ext.drew ?_ | with_reducible refine Ext.alloc ?_ _ | with_reducible refine Ext.trans ?_ (by with_reducible assumption))) ?_; intro v5 w5 hB2 xs2) | (refine step_app1 (R := verdictO) elemVer (by decide) rfl _ _ rfl (hB1) rfl wq.heap.size 1 rfl ((hk1 _ (by simp <;> omega) (by simp [Value.ownBlock])).trans HV3.out) (one_ver _ _ _ _) (y := cur[k]) ⟨⟨rfl, HOKX.out⟩, rfl⟩ fresh_nil HL2.out (by decide) xs1.size (w0 := wq) (Nat.le_refl _) (by repeat (first | with_reducible exact Ext.refl _ | with_reducible assumption | with_reducible refine Ext.drew ?_ | with_reducible refine Ext.alloc ?_ _ | with_reducible refine Ext.trans ?_ (by with_reducible assumption))) ?_; intro v5 w5 hB2 xs2) | (refine step_appv elemVer (by decide) rfl _ _ rfl (Bld.empv (R := verdictO) (base := wq.heap.size) (Nat.le_refl _) HE1.out) rfl rfl (HTK.out _ (by repeat (first | with_reducible exact Ext.refl _ | with_reducible assumption | with_reducible refine Ext.drew ?_ | with_reducible refine Ext.alloc ?_ _ | with_reducible refine Ext.trans ?_ (by with_reducible assumption)))) HL1.out (by simp <;> omega) (w0 := wq) (Nat.le_refl _) (by repeat (first | with_reducible exact Ext.refl _ | with_reducible assumption | with_reducible refine Ext.drew ?_ | with_reducible refine Ext.alloc ?_ _ | with_reducible refine Ext.trans ?_ (by with_reducible assumption))) ?_; intro v4 w4 hB1 xs1 hk1; rw [List.nil_append] at hB1) | (refine step_appv elemVer (by decide) rfl _ _ rfl (Bld.empv (R := verdictO) (base := wq.heap.size) (Nat.le_refl _) HE2.out) rfl rfl (HTK.out _ (by repeat (first | with_reducible exact Ext.refl _ | with_reducible assumption | with_reducible refine Ext.drew ?_ | with_reducible refine Ext.alloc ?_ _ | with_reducible refine Ext.trans ?_ (by with_reducible assumption)))) HL1.out (by simp <;> omega) (w0 := wq) (Nat.le_refl _) (by repeat (first | with_reducible exact Ext.refl _ | with_reducible assumption | with_reducible refine Ext.drew ?_ | with_reducible refine Ext.alloc ?_ _ | with_reducible refine Ext.trans ?_ (by with_reducible assumption))) ?_; intro v4 w4 hB1 xs1 hk1; rw [List.nil_append] at hB1) | (refine step_appv elemVer (by decide) rfl _ _ rfl (Bld.empv (R := verdictO) (base := wq.heap.size) (Nat.le_succ _) HE3.out) rfl rfl (HTK.out _ (by repeat (first | with_reducible exact Ext.refl _ | with_reducible assumption | with_reducible refine Ext.drew ?_ | with_reducible refine Ext.alloc ?_ _ | with_reducible refine Ext.trans ?_ (by with_reducible assumption)))) HL1.out (by simp <;> omega) (w0 := wq) (Nat.le_refl _) (by repeat (first | with_reducible exact Ext.refl _ | with_reducible assumption | with_reducible refine Ext.drew ?_ | with_reducible refine Ext.alloc ?_ _ | with_reducible refine Ext.trans ?_ (by with_reducible assumption))) ?_; intro v4 w4 hB1 xs1 hk1; rw [List.nil_append] at hB1))

            all_goals
              obtain ⟨A6, c6, e6, _⟩ := hB3.sl.form
              subst e6
              have HNE := hid (show ∃ b6 o6, A6 = some ⟨b6, o6, none⟩ from by
                have hlen : 0 < (must.take q ++ [cur[k]] ++ must.drop q).length := by simp only [List.length_append, List.length_cons, List.length_nil]; omega
                obtain ⟨b6, o6, _, e, _⟩ := hB3.sl.at_ hlen
                exact ⟨b6, o6, e⟩)
              obtain ⟨b6, o6, e9⟩ := HNE.out
              subst e9
              clear HNE
              have HD9 := hid (show u5.ownBlock ≠ some b6 from fun e => by
                have h1 := (HB5Q.out.lt.2 b6 e).1
                have h2 := (hB3.lt.2 b6 rfl).2
                omega)
              have HB3 := hid (hB3.lowv HWS.out)
              have HX6 := hid (HX9.out.trans xs3)
              have HB5R := hid (HB5Q.out.ext xs3)
              clear hB3 xs3
              go_wp2
              go_roundw
              case rel => exact ⟨k + 1, b6, o6, c6, insK lateF must cur[k], by omega, by go_num, by rw [HCA.out]; exact HB5R.out, by rw [HCNT.out], by rw [HCNT.out]; exact HB3.out, by rw [HMU.out, HOUT.out], HD9.out, HX6.out⟩
              case measure => simp [intOf]; omega
    · have hkc : k = cur.length := by omega
      subst hkc
      have hMU : mustV cur = must := by have := HOUT.out; rw [List.take_of_length_le (Nat.le_refl _)] at this; exact this
      rw [List.take_of_length_le (Nat.le_refl _)] at hB5
      have HMOK := hid (show ∀ x ∈ must, okV x = true from fun x hx => by
        rw [← hMU] at hx
        have := (sortK_perm lateF _).mem_iff.1 hx
        exact hok x (List.mem_filter.1 this).1)
      have hcl := cantV_len cur
      have hCS := hB5.sl
      have hMS := hB6.sl
      obtain ⟨A5, c5, e5, _⟩ := hCS.form
      subst e5
      have HMU := hid hMU
      have HX13 := hid (HX1.out.trans hx)
      clear hB5 hB6 hD hx hMU HOUT HOC
      go_wp2_with fail
      refine (spec_l28CopyB _ (cantV cur) _ hCS (by omega)).mono ?_
      rintro e w3 ⟨v9, rfl, hB9, x9⟩
      obtain ⟨F9, o9, _, _⟩ := hB9.done
      have hb10 : Bld verdictO ((w3.alloc (.cells #[] 32)).alloc (.cells #[] 29)) w3.heap.size 32 (.slice (some ⟨w3.heap.size, 0, none⟩) 0 0) [] [] := (Bld.lit w3 (Nat.le_refl _) _).ext ((Ext.refl _).alloc _)
      have x3 : Ext w3 ((w3.alloc (.cells #[] 32)).alloc (.cells #[] 29)) := ((Ext.refl _).alloc _).alloc _
      have hb9 := o9.ext x3
      have hb9l := o9.lt
      have HMS := hid (show ∀ W, Ext w3 W → Sl verdictR W (.slice (some ⟨bo, oo, none⟩) must.length cm) must from fun W y => hMS.mono (x9.trans y))
      have HCS := hid (show ∀ W, Ext w3 W → Sl verdictR W (.slice A5 (cantV cur).length c5) (cantV cur) from fun W y => hCS.mono (x9.trans y))
      have HX13 := hid (HX13.out.trans x9)
      have HCL := hid hcl
      clear hB9 o9 x9 hMS hCS hcl
      go_wp2_with fail
      go_loopw [9, 10, 11, 12] (fun t9 t10 t11 i wr => ∃ (j : Nat) (kept ref : List Verdict) (g : List (List Int)) (F9 F11 : List Nat), j ≤ must.length ∧ i = .int .i64 j ∧ (must.take j).foldl (stR (cantV cur)) ([], cantV cur, []) = (g, kept, ref) ∧ OwnSl verdictO wr t9 kept F9 ∧ Bld verdictO wr w3.heap.size 32 t10 ref [] ∧ OwnSl (slO intO) wr t11 g F11 ∧ (∀ b, t10.ownBlock = some b → b ∉ F9 ∧ b ∉ F11) ∧ (kept.length ≤ 8 + j ∧ ref.length ≤ j ∧ g.length ≤ j ∧ ∀ r ∈ g, r.length ≤ 2 ^ (j + 1)) ∧ Ext w3 wr) (fun _ _ _ i _ => must.length - (intOf i).toNat)
      case atStart => exact ⟨0, cantV cur, [], [], F9, [], Nat.zero_le _, rfl, rfl, hb9, hb10, .inl ⟨rfl, rfl, _, _, rfl, Nat.zero_le _⟩, fun b hb => ⟨fun hm => by
        have h1 := hb9l b hm
        have h2 : w3.heap.size = b := by simpa [Value.ownBlock] using hb
        omega, fun h => by cases h⟩, ⟨by have := HCL.out; omega, Nat.le_refl _, Nat.le_refl _, fun r hr => by cases hr⟩, x3⟩
      case round =>
        clear hb9 hb10 x3 hb9l
        obtain ⟨j, kept, ref, g, F9, F11, hj, rfl, hfold, o9, hB10, o11, hdis, ⟨l1, l2, l3, l4⟩, hx⟩ := hrel
        have HDIS := hid hdis
        have HFO := hid hfold
        have HK := hid (show ∀ W, Ext wr W → OwnSl verdictO W _ kept F9 from fun W y => o9.ext y)
        have HG := hid (show ∀ W, Ext wr W → OwnSl (slO intO) W _ g F11 from fun W y => o11.ext y)
        have HB10 := hid hB10
        have HX := hid hx
        have HL9 := hid o9.lt
        have HL11 := hid o11.lt
        clear hdis hfold
        by_cases hltj : j < must.length
        · obtain ⟨b, off, eA, hokk, c0, c1', c2, c3⟩ := (HMS.out _ hx).verdict hltj
          injection eA with eA
          injection eA with eB eO _
          subst eB; subst eO
          have HOKX := hid hokk
          have hp2 : 2 ^ (j + 1) ≤ 2 ^ 9 := Nat.pow_le_pow_right (by decide) (by omega)
          have HGL := hid (And.intro (show g.length ≤ 1048576 by omega) (show ∀ r ∈ g, r.length ≤ 1048576 from fun r hr => by have := l4 r hr; omega))
          have HSTEP := hid (show (must.take (j + 1)).foldl (stR (cantV cur)) ([], cantV cur, []) = stR (cantV cur) (g, kept, ref) must[j] from by rw [List.take_succ_eq_append_getElem hltj, List.foldl_append, HFO.out]; rfl)
          have HCM := hid (show ∀ W, Ext wr W → W.cell? ⟨bo, oo + j * 4, none⟩ = some (.int .i64 must[j].a) ∧ W.cell? ⟨bo, oo + j * 4 + 1, none⟩ = some (.int .i64 must[j].b) ∧ W.cell? ⟨bo, oo + j * 4 + 2, none⟩ = some (.bool must[j].same) ∧ W.cell? ⟨bo, oo + j * 4 + 3, none⟩ = some (.int .i64 must[j].time) from fun W y => ⟨y.cell c0, y.cell c1', y.cell c2, y.cell c3⟩)
          have HBD := hid (And.intro l1 (And.intro l2 (And.intro l3 l4)))
          have HMJ := hid (HMOK.out must[j] (List.getElem_mem hltj))
          clear o9 o11 hB10 hx hokk c2 c3 l1 l2 l3 l4 hp2
          obtain ⟨wq, hwq⟩ : ∃ wq, wq = wr := ⟨_, rfl⟩
          rw [← hwq] at HK HG HB10 HX HL9 HL11 HCM c0 c1' ⊢
          clear hwq
          go_wp2_with fail
          go_region_held3 (fun w' => w'.cell? ⟨bo, oo + j * 4, none⟩ = some (.int .i64 must[j].a) ∧ w'.cell? ⟨bo, oo + j * 4 + 1, none⟩ = some (.int .i64 must[j].b)) (exact ⟨(HCM.out _ (by repeat (first | with_reducible exact Ext.refl _ | with_reducible assumption | with_reducible refine Ext.drew ?_ | with_reducible refine Ext.alloc ?_ _ | with_reducible refine Ext.trans ?_ (by with_reducible assumption)))).1, (HCM.out _ (by repeat (first | with_reducible exact Ext.refl _ | with_reducible assumption | with_reducible refine Ext.drew ?_ | with_reducible refine Ext.alloc ?_ _ | with_reducible refine Ext.trans ?_ (by with_reducible assumption)))).2.1⟩) (first | (go_at_call 29; refine (spec_l28Join _ g must[j].a must[j].b _ F11 (HG.out _ (by repeat (first | with_reducible exact Ext.refl _ | with_reducible assumption | with_reducible refine Ext.drew ?_ | with_reducible refine Ext.alloc ?_ _ | with_reducible refine Ext.trans ?_ (by with_reducible assumption)))) HOKX.out.1 HOKX.out.2.1 HGL.out.1 HGL.out.2).mono ?_; rintro e w5 ⟨v5, F5, rfl, hO5, hF5, x5⟩))
          all_goals
            have x5q : Ext wq w5 := (by repeat (first | with_reducible exact Ext.refl _ | with_reducible assumption | with_reducible refine Ext.drew ?_ | with_reducible refine Ext.alloc ?_ _ | with_reducible refine Ext.trans ?_ (by with_reducible assumption)))
            have hF5q : ∀ b ∈ F5, b ∈ F11 ∨ wq.heap.size ≤ b := fun b hb => hF5 b hb
            have hsl5 := HCS.out _ (HX.out.trans x5q)
            have hJl := joinG_len g must[j].a must[j].b
            have hJr := joinG_rows HBD.out.2.2.2 (Nat.one_le_two_pow) must[j].a must[j].b
            have HCM5 := hid (show ∀ W, Ext w5 W → W.cell? ⟨bo, oo + j * 4, none⟩ = some (.int .i64 must[j].a) ∧ W.cell? ⟨bo, oo + j * 4 + 1, none⟩ = some (.int .i64 must[j].b) ∧ W.cell? ⟨bo, oo + j * 4 + 2, none⟩ = some (.bool must[j].same) ∧ W.cell? ⟨bo, oo + j * 4 + 3, none⟩ = some (.int .i64 must[j].time) from fun W y => HCM.out W (x5q.trans y))
            have HY := hid (fun (h : apartG (joinG g must[j].a must[j].b) (cantV cur) = true) => HSTEP.out.trans (stR_yes (c := cantV cur) (g := g) (kept := kept) (ref := ref) (v := must[j]) h))
            have HN := hid (fun (h : apartG (joinG g must[j].a must[j].b) (cantV cur) = false) => HSTEP.out.trans (stR_no (c := cantV cur) (g := g) (kept := kept) (ref := ref) (v := must[j]) h))
            have hA := spec_l28Apart v5 _ (joinG g must[j].a must[j].b) (cantV cur) w5 hO5.sl hsl5
            obtain ⟨J, hJ⟩ : ∃ J, J = joinG g must[j].a must[j].b := ⟨_, rfl⟩
            rw [← hJ] at hA hO5 hJl hJr HY HN
            have HJR := hid (And.intro hJl hJr)
            have HX5 := hid x5q
            have HO5 := hid hO5
            have HF5 := hid hF5q
            clear hJ hJl hJr x5q hO5 hF5q hF5 x5 hsl5
            cases hap : apartG J (cantV cur) with
            | true =>
              rw [hap] at hA
              have HAP := hid hA
              have HS := hid (HY.out hap)
              have HSK := hid (show kept.length ≤ 1048576 from by have := HBD.out.1; omega)
              have HSK2 := hid (show (sortS kept).length ≤ 1048576 from by rw [sortS_len]; have := HBD.out.1; omega)
              clear hap hA
              go_wp2_with (go_at_call 30; refine (HAP.out).mono ?_; rintro e w8 ⟨rfl, rfl⟩)
              go_region_held3 (fun w' => w'.cell? ⟨bo, oo + j * 4, none⟩ = some (.int .i64 must[j].a) ∧ w'.cell? ⟨bo, oo + j * 4 + 1, none⟩ = some (.int .i64 must[j].b) ∧ w'.cell? ⟨bo, oo + j * 4 + 2, none⟩ = some (.bool must[j].same) ∧ w'.cell? ⟨bo, oo + j * 4 + 3, none⟩ = some (.int .i64 must[j].time)) (exact HCM5.out _ (by repeat (first | with_reducible exact Ext.refl _ | with_reducible assumption | with_reducible refine Ext.drew ?_ | with_reducible refine Ext.alloc ?_ _ | with_reducible refine Ext.trans ?_ (by with_reducible assumption)))) (first | (go_at_call 32; refine (spec_l28Sort _ kept _ ((HK.out _ (HX5.out.trans (by repeat (first | with_reducible exact Ext.refl _ | with_reducible assumption | with_reducible refine Ext.drew ?_ | with_reducible refine Ext.alloc ?_ _ | with_reducible refine Ext.trans ?_ (by with_reducible assumption))))).sl) HSK.out).mono ?_; rintro e w6 ⟨v6, rfl, hB6, x6⟩) | (go_at_call 31; refine (spec_AddVerdict _ (sortS kept) must[j] _ hB6.sl HSK2.out).mono ?_; rintro e w7 ⟨v7, F7, rfl, hO7, hN7, x7⟩))
              all_goals
                have x57 : Ext w5 w7 := (by repeat (first | with_reducible exact Ext.refl _ | with_reducible assumption | with_reducible refine Ext.drew ?_ | with_reducible refine Ext.alloc ?_ _ | with_reducible refine Ext.trans ?_ (by with_reducible assumption)))
                have hs57 := (Ext.size x57)
                have h67 : ∀ b ∈ F7, wq.heap.size ≤ b := fun b hb => Nat.le_trans HX5.out.size (Nat.le_trans x6.size (hN7.2 b hb))
                have HO7 := hid hO7
                have HX7 := hid (HX5.out.trans x57)
                have HX57 := hid x57
                have HF7 := hid h67
                clear x6 x7 hB6 hO7 hN7 x57 hs57 h67
                go_wp2
                go_roundw
                case rel => exact ⟨j + 1, (addV (sortS kept) must[j]).1, ref, J, F7, F5, by omega, by go_num, HS.out, HO7.out, HB10.out.ext HX7.out, HO5.out.ext HX57.out, fun b hb => ⟨fun hm => by
                  have := HF7.out b hm
                  have := (HB10.out.lt.2 b hb).1
                  omega, fun hm => by
                  rcases HF5.out b hm with h | h
                  · exact (HDIS.out b hb).2 h
                  · have := (HB10.out.lt.2 b hb).1
                    omega⟩, ⟨by have := addV_lenS (sortS kept) must[j]; rw [sortS_len] at this; have := HBD.out.1; omega, by have := HBD.out.2.1; omega, by have := HBD.out.2.2.1; have := HJR.out.1; omega, fun r hr => by have := HJR.out.2 r hr; rw [Nat.pow_succ 2 (j + 1)]; omega⟩, HX.out.trans HX7.out⟩
                case measure => simp [intOf]; omega
            | false =>
              rw [hap] at hA
              have HAP := hid hA
              have HS := hid (HN.out hap)
              have hB10 := HB10.out.ext HX5.out
              have HLN := hid (show ref.length + 1 ≤ 1099511627776 from by have := HBD.out.2.1; omega)
              have HBS := hid (Nat.le_trans HX.out.size HX5.out.size)
              obtain ⟨d0, d1, d2, d3⟩ := HCM5.out _ (Ext.refl _)
              clear hap hA c0 c1'
              go_wp2_with (first | (go_at_call 30; refine (HAP.out).mono ?_; rintro e w8 ⟨rfl, rfl⟩) | (at_builtin; refine wpList_app1h (R := verdictO) elemVer (by decide) rfl _ _ rfl hB10 rfl _ 1 rfl (by simp) (one_ver _ _ _ _) (y := must[j]) ⟨⟨rfl, HOKX.out⟩, rfl⟩ fresh_nil HLN.out (by decide) HBS.out ?_; intro v9 w9 hB9 hE9 hA9))
              go_roundw
              case rel => exact ⟨j + 1, kept, ref ++ [must[j]], g, F9, F11, by omega, by go_num, HS.out, (HK.out _ HX5.out).keep fun b hb => hA9.keep b (Nat.lt_of_lt_of_le (HL9.out b hb) HX5.out.size) fun e => (HDIS.out b e).1 hb, hB9, (HG.out _ HX5.out).keep fun b hb => hA9.keep b (Nat.lt_of_lt_of_le (HL11.out b hb) HX5.out.size) fun e => (HDIS.out b e).2 hb, fun b hb => by
                rcases hA9.own b hb with e | e
                · exact HDIS.out b e
                · have := HX5.out.size
                  exact ⟨fun hm => by have := HL9.out b hm; omega, fun hm => by have := HL11.out b hm; omega⟩, ⟨by have := HBD.out.1; omega, by rw [List.length_append, List.length_singleton]; have := HBD.out.2.1; omega, by have := HBD.out.2.2.1; omega, fun r hr => by have := HBD.out.2.2.2 r hr; rw [Nat.pow_succ 2 (j + 1)]; omega⟩, hE9 w3 (Nat.le_refl _) (HX.out.trans HX5.out)⟩
              case measure => simp [intOf]; omega
        · have HF := hid (show splitR xs = (sortS kept, sortS ref) from by
            have := HFO.out
            rw [List.take_of_length_le (by omega), ← HMU.out] at this
            rw [HSP.out, this])
          have h1 := o9.sl
          have h2 := hB10.sl
          have HSK := hid (And.intro (show kept.length ≤ 1048576 by omega) (show ref.length ≤ 1048576 by omega))
          clear o9 hB10 o11
          go_wp2_with fail
          refine (spec_l28Sort _ kept _ h1 HSK.out.1).mono ?_
          rintro e w6 ⟨v6, rfl, hB6, x6⟩
          go_wp2_with fail
          refine (spec_l28Sort _ ref _ (h2.mono x6) HSK.out.2).mono ?_
          rintro e w7 ⟨v7, rfl, hB7, x7⟩
          go_wp2_with fail
          refine bodyPost_ret (v := .tuple #[v6, v7]) (by simp [results, Try.results8, go_sem]) rfl ?_
          obtain ⟨G1, q1, n1, m1⟩ := hB6.done
          obtain ⟨G2, q2, n2, m2⟩ := hB7.done
          have hx9 := HX13.out.trans hx
          exact ⟨v6, v7, G1, G2, rfl, by rw [HF.out]; exact q1.ext x7, by rw [HF.out]; exact q2, ⟨List.nodup_append.2 ⟨n1, n2, fun a ha b hb e => by
            have := q1.lt a ha
            have := m2 b hb
            omega⟩, fun b hb => by
            rcases List.mem_append.1 hb with hb | hb
            · exact Nat.le_trans hx9.size (m1 b hb)
            · exact Nat.le_trans (hx9.trans x6).size (m2 b hb)⟩, hx9.trans (x6.trans x7)⟩

end Go.Proofs.Ytmembjjgkideeaa
