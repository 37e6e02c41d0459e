/-
  WALK: SplitVerdicts (the program's).
-/
import Derived.Test.YtmembjjgkideeaaMgEndSpl15
import Derived.Test.YtmembjjgkideeaaMgEndSpl18
import Derived.Test.YtmembjjgkideeaaMgEndSpl12
import Derived.Test.YtmembjjgkideeaaMgEndSpl19

namespace Go.Proofs.Ytmembjjgkideeaa
open Go.RowKit

theorem stP_yes {s1 s2 : List Verdict} {v : Verdict} (h : clashV (s1 ++ [v]) = true) : stP (s1, s2) v = (s1, s2 ++ [v]) := by unfold stP; rw [if_pos h]
theorem stP_no {s1 s2 : List Verdict} {v : Verdict} (h : clashV (s1 ++ [v]) = false) : stP (s1, s2) v = (s1 ++ [v], s2) := by unfold stP; rw [if_neg (by show ¬ clashV (s1 ++ [v]) = true; rw [h]; decide)]
theorem same_step {cur : List Verdict} {k : Nat} (h : k < cur.length) : (cur.take (k + 1)).filter (fun v => v.same) = if cur[k].same = true then (cur.take k).filter (fun v => v.same) ++ [cur[k]] else (cur.take k).filter fun v => v.same := by
  rw [List.take_succ_eq_append_getElem h, List.filter_append]
  cases hs : cur[k].same with
  | true => rw [if_pos rfl, List.filter_cons_of_pos (by simp [hs])]; rfl
  | false => rw [if_neg (by decide), List.filter_cons_of_neg (by simp [hs])]; simp
/-- what it owns: its own block -/
theorem Bld.doneV {w : World} {base : Nat} {e : TypeId} {v : Value} {xs : List Verdict} (h : Bld verdictO w base e v xs []) : ∃ F, OwnSl verdictO w v xs F ∧ F.Nodup ∧ ∀ b ∈ F, base ≤ b ∧ v.ownBlock = some b := by
  obtain ⟨cs, h1, h2, h3, h4, h5⟩ := h
  rcases h1.2 with ⟨rfl, hn⟩ | ⟨g, cap, cur, rfl, hb, hh, hnc, hcm, hcs, htake⟩
  · exact ⟨[], .inl ⟨List.eq_nil_of_length_eq_zero hn, rfl, none, 0, rfl, Nat.zero_le _⟩, List.nodup_nil, fun _ h => by cases h⟩
  · refine ⟨[g], .inr ⟨g, 0, cap, cur, e, [], rfl, ⟨hnc, hcm⟩, hh, rfl, ?_, by rw [List.drop_zero, htake]; exact h2⟩, by simp, fun b hb2 => ?_⟩
    · rw [hcs, Nat.zero_add]; exact Nat.mul_le_mul_right _ hnc
    · rw [List.mem_singleton] at hb2
      subst hb2
      exact ⟨hb, rfl⟩

set_option maxHeartbeats 4000000 in
set_option maxRecDepth 20000 in
theorem impl_SplitVerdicts (v : Value) (xs : List Verdict) (w : World) (h : Sl verdictR w v xs) (hl : xs.length ≤ 1048576) :
    Calls Try.prog 7 #[v] w fun e w2 => ∃ v1 v2 F1 F2, e = .returned (.tuple #[v1, v2]) ∧ OwnSl verdictO w2 v1 (splitV xs).1 F1 ∧ OwnSl verdictO w2 v2 (splitV xs).2 F2 ∧ NewF w (F1 ++ F2) ∧ Ext w w2 := by
  obtain ⟨hn, hok, h8⟩ := curV_facts xs
  obtain ⟨cur, hcur⟩ : ∃ c, c = curV xs := ⟨_, rfl⟩
  have HSP := hid (show splitV xs = (sortS ((mustV cur).foldl stP (cantV cur, [])).1, sortS ((mustV cur).foldl stP (cantV cur, [])).2) from by rw [hcur]; rfl)
  have HCU := hid (impl_CurrentVerdicts v xs w h)
  rw [← hcur] at hok h8 HCU
  clear hn hcur
  go_enter Try.func7, Try.ntmps7
  go_wp2_with fail
  refine (HCU.out).mono ?_
  rintro e w1 ⟨v1, FC, rfl, o1, _, x1⟩
  have hC := o1.sl
  obtain ⟨A1, c1, e1, _⟩ := hC.form
  subst e1
  have HX1 := hid x1
  clear o1 x1
  go_wp2_with fail
  go_loopw [4, 6, 14] (fun t4 t6 i wr => ∃ (k : Nat), k ≤ cur.length ∧ i = .int .i64 k ∧ Bld verdictO wr w1.heap.size 32 t4 (cantV (cur.take k)) [] ∧ Bld verdictO wr w1.heap.size 32 t6 ((cur.take k).filter fun v => v.same) [] ∧ (∀ b, t4.ownBlock = some b → t6.ownBlock ≠ some b) ∧ Ext w1 wr) (fun _ _ i _ => cur.length - (intOf i).toNat)
  case atStart => exact ⟨0, Nat.zero_le _, rfl, Bld.nil w1 _ _, Bld.nil w1 _ _, (fun b hb => by cases hb), Ext.refl _⟩
  case round =>
    obtain ⟨k, hk, rfl, hB4, hB6, hD, hx⟩ := hrel
    by_cases hlt : k < cur.length
    · obtain ⟨b, off, eA, hokk, c0, c1', c2, c3⟩ := (hC.mono hx).verdict hlt
      subst eA
      have HS1 := hid (cantV_step hlt)
      have HS2 := hid (same_step hlt)
      have hl1 := cantV_len (cur.take k)
      have hl2 := List.length_filter_le (fun v : Verdict => v.same) (cur.take k)
      rw [List.length_take] at hl1 hl2
      obtain ⟨sm, hsm⟩ : ∃ sm, sm = cur[k].same := ⟨_, rfl⟩
      have HVV := hid (show verdictR.rd wr #[.int .i64 cur[k].a, .int .i64 cur[k].b, .bool sm, .int .i64 cur[k].time].toList cur[k] from ⟨by rw [hsm]; rfl, hokk⟩)
      have HL1 := hid (show (cantV (cur.take k)).length + 1 ≤ 1099511627776 by omega)
      have HL2 := hid (show ((cur.take k).filter fun v => v.same).length + 1 ≤ 1099511627776 by omega)
      rw [← hsm] at c2
      have xb : Ext wr (wr.alloc (.cells #[.int .i64 cur[k].a, .int .i64 cur[k].b, .bool sm, .int .i64 cur[k].time] 32)) := (Ext.refl wr).alloc _
      cases sm with
      | false =>
        have HCA := hid (show cantV (cur.take (k + 1)) = cantV (cur.take k) ++ [cur[k]] from by have := HS1.out; rwa [← hsm, if_neg (by decide)] at this)
        have HMU := hid (show (cur.take (k + 1)).filter (fun v => v.same) = (cur.take k).filter fun v => v.same from by have := HS2.out; rwa [← hsm, if_neg (by decide)] at this)
        have hB := hB4.ext xb
        have hBs := Nat.le_trans hx.size xb.size
        clear hsm hokk hl1 hl2
        go_wp2_with (at_builtin; refine wpList_app1h (R := verdictO) elemVer (by decide) rfl _ _ rfl hB rfl _ 1 rfl (by simp) (one_ver _ _ _ _) (y := cur[k]) ⟨HVV.out, rfl⟩ fresh_nil HL1.out (by decide) hBs ?_; intro v9 w9 hB9 hE9 hA9)
        go_roundw
        case rel => exact ⟨k + 1, by omega, by go_num, by rw [HCA.out]; exact hB9, by rw [HMU.out]; exact (hB6.ext xb).stay fun b hb => hA9.keep b ((hB6.ext xb).lt.2 b hb).1 fun e => hD b e hb, (fun b e hb => by
          rcases hA9.own b e with e | e
          · exact hD b e hb
          · have := (hB6.lt.2 b hb).1
            have := xb.size
            omega), hE9 w1 (Nat.le_refl _) (hx.trans xb)⟩
        case measure => simp [intOf]; omega
      | true =>
        have HCA := hid (show cantV (cur.take (k + 1)) = cantV (cur.take k) from by have := HS1.out; rwa [← hsm, if_pos rfl] at this)
        have HMU := hid (show (cur.take (k + 1)).filter (fun v => v.same) = (cur.take k).filter (fun v => v.same) ++ [cur[k]] from by have := HS2.out; rwa [← hsm, if_pos rfl] at this)
        have hB := hB6.ext xb
        have hBs := Nat.le_trans hx.size xb.size
        clear hsm hokk hl1 hl2
        go_wp2_with (at_builtin; refine wpList_app1h (R := verdictO) elemVer (by decide) rfl _ _ rfl hB rfl _ 1 rfl (by simp) (one_ver _ _ _ _) (y := cur[k]) ⟨HVV.out, rfl⟩ fresh_nil HL2.out (by decide) hBs ?_; intro v9 w9 hB9 hE9 hA9)
        go_roundw
        case rel => exact ⟨k + 1, by omega, by go_num, by rw [HCA.out]; exact (hB4.ext xb).stay fun b hb => hA9.keep b ((hB4.ext xb).lt.2 b hb).1 fun e => hD b hb e, by rw [HMU.out]; exact hB9, (fun b hb e => by
          rcases hA9.own b e with e | e
          · exact hD b hb e
          · have := (hB4.lt.2 b hb).1
            have := xb.size
            omega), hE9 w1 (Nat.le_refl _) (hx.trans xb)⟩
        case measure => simp [intOf]; omega
    · have htk : cur.take k = cur := List.take_of_length_le (by omega)
      rw [htk] at hB4 hB6
      have hcl := cantV_len cur
      have hfl := List.length_filter_le (fun v : Verdict => v.same) cur
      clear htk
      go_wp2_with fail
      refine (slices_SortStable_late _ _ _ _ hB6 (by omega)).mono ?_
      rintro e w2 ⟨rfl, hO, hE, hK⟩
      have hB4 := hB4.stay fun b hb => hK b (hB4.lt.2 b hb).1 (hD b hb)
      have hx2 := hE w1 (Nat.le_refl _) hx
      obtain ⟨must, hmust⟩ : ∃ m, m = mustV cur := ⟨_, rfl⟩
      have HMU := hid hmust
      have hml : must.length ≤ 8 := by rw [hmust]; have := mustV_len cur; omega
      have HMOK := hid (show ∀ x ∈ must, okV x = true from fun x hx => by
        rw [hmust] at hx
        have := (sortK_perm lateF _).mem_iff.1 hx
        exact hok x (List.mem_filter.1 this).1)
      rw [show sortK lateF (cur.filter fun v => v.same) = must from hmust.symm] at hO
      obtain ⟨A6, c6, e6, _⟩ := hO.sl.form
      subst e6
      have HCOK := hid (show ∀ x ∈ cantV cur, okV x = true from fun x hx => hok x (List.mem_filter.1 hx).1)
      have HD := hid hD
      have HCL := hid hcl
      clear hB6 hx hE hK hfl hcl hmust hD
      go_wp2_with fail
      go_loopw [4, 5, 33] (fun t4 t5 i wr => ∃ (j : Nat) (s1 s2 : List Verdict), j ≤ must.length ∧ i = .int .i64 j ∧ (must.take j).foldl stP (cantV cur, []) = (s1, s2) ∧ Bld verdictO wr w1.heap.size 32 t4 s1 [] ∧ Bld verdictO wr w1.heap.size 32 t5 s2 [] ∧ Bld verdictO wr w1.heap.size 32 (.slice A6 must.length c6) must [] ∧ (∀ b, t4.ownBlock = some b → t5.ownBlock ≠ some b ∧ (Value.slice A6 must.length c6).ownBlock ≠ some b) ∧ (∀ b, t5.ownBlock = some b → (Value.slice A6 must.length c6).ownBlock ≠ some b) ∧ (s1.length ≤ 8 + j ∧ s2.length ≤ j ∧ ∀ x ∈ s1, okV x = true) ∧ Ext w1 wr) (fun _ _ i _ => must.length - (intOf i).toNat)
      case atStart => exact ⟨0, cantV cur, [], Nat.zero_le _, rfl, rfl, hB4, Bld.nil _ _ _, hO, (fun b hb => ⟨(fun e => by cases e), HD.out b hb⟩), (fun b hb => by cases hb), ⟨by have := HCL.out; omega, Nat.le_refl _, HCOK.out⟩, hx2⟩
      case round =>
        clear hB4 hO hx2
        obtain ⟨j, s1, s2, hj, rfl, hf, hB4, hB5, hBm, hD4, hD5, ⟨l1, l2, l3⟩, hx⟩ := hrel
        have HF := hid hf
        clear hf
        by_cases hltj : j < must.length
        · obtain ⟨b, off, eA, hokk, c0, c1', c2, c3⟩ := hBm.sl.verdict hltj
          subst eA
          have HSTEP := hid (show (must.take (j + 1)).foldl stP (cantV cur, []) = stP (s1, s2) must[j] from by rw [List.take_succ_eq_append_getElem hltj, List.foldl_append, HF.out]; rfl)
          obtain ⟨wb, hwb⟩ : ∃ wb, wb = wr.alloc (.cells #[.int .i64 must[j].a, .int .i64 must[j].b, .bool must[j].same, .int .i64 must[j].time] 32) := ⟨_, rfl⟩
          have xb : Ext wr wb := by rw [hwb]; exact (Ext.refl wr).alloc _
          have HBX := hid (show ∀ W, Ext wb W → W.cell? ⟨wr.heap.size, 0, none⟩ = some (.int .i64 must[j].a) ∧ W.cell? ⟨wr.heap.size, 1, none⟩ = some (.int .i64 must[j].b) ∧ W.cell? ⟨wr.heap.size, 2, none⟩ = some (.bool must[j].same) ∧ W.cell? ⟨wr.heap.size, 3, none⟩ = some (.int .i64 must[j].time) from fun W y => by rw [hwb] at y; exact ⟨y.box.1 0, y.box.1 1, y.box.1 2, y.box.1 3⟩)
          have HB4 := hid (hB4.ext xb)
          have HB5 := hid (hB5.ext xb)
          have HBM := hid (hBm.ext xb)
          have HX := hid (hx.trans xb)
          have HOKX := hid hokk
          have HLL := hid (And.intro l1 (And.intro l2 l3))
          have HD4 := hid hD4
          have HD5 := hid hD5
          obtain ⟨gb, hgb⟩ : ∃ gb, gb = wr.heap.size := ⟨_, rfl⟩
          have HSK := hid (show s1.length ≤ 1048576 by omega)
          have HLC := hid (show s1.length + 1 ≤ 1099511627776 by omega)
          have HOKS := hid (show ∀ x ∈ s1 ++ [must[j]], okV x = true from fun x hx => by
            rcases List.mem_append.1 hx with hx | hx
            · exact l3 x hx
            · rw [List.mem_singleton] at hx; rw [hx]; exact HMOK.out _ (List.getElem_mem hltj))
          obtain ⟨cv, hcv⟩ : ∃ cv, cv = clashV (s1 ++ [must[j]]) := ⟨_, rfl⟩
          have HCV := hid (show ∀ (v : Value) (W : World), Sl verdictR W v (s1 ++ [must[j]]) → Calls Try.prog 24 #[v] W fun e w2 => e = .returned (.bool cv) ∧ Ext W w2 from fun v W h => by rw [hcv]; exact impl_clash v (s1 ++ [must[j]]) W h HOKS.out)
          have HCVE := hid hcv
          clear hB4 hB5 hBm hx xb hokk hD4 hD5 l1 l2 l3 hcv
          go_wp2_with fail
          rw [← hwb]
          rw [← hgb] at HBX ⊢
          clear hwb c0 c1' c2 c3 hgb
          go_region_held3 (fun w' => w'.cell? ⟨gb, 0, none⟩ = some (.int .i64 must[j].a) ∧ w'.cell? ⟨gb, 1, none⟩ = some (.int .i64 must[j].b) ∧ w'.cell? ⟨gb, 2, none⟩ = some (.bool must[j].same) ∧ w'.cell? ⟨gb, 3, none⟩ = some (.int .i64 must[j].time)) (exact HBX.out _ (by repeat (first | with_reducible exact Ext.refl _ | with_reducible assumption | with_reducible refine Ext.drew ?_ | with_reducible refine Ext.alloc ?_ _ | with_reducible refine Ext.trans ?_ (by with_reducible assumption)))) (first | (go_at_call 24; refine (HCV.out v7 _ hB7.sl).mono ?_; rintro e w8 ⟨rfl, x8⟩) | (go_at_call 25; refine (slices_Clone_vB _ s1 _ ((HB4.out.ext (by repeat (first | with_reducible exact Ext.refl _ | with_reducible assumption | with_reducible refine Ext.drew ?_ | with_reducible refine Ext.alloc ?_ _ | with_reducible refine Ext.trans ?_ (by with_reducible assumption)))).sl) HSK.out).mono ?_; rintro e w6 ⟨v6, rfl, hB6, x6⟩) | (refine step_app1 (R := verdictO) elemVer (by decide) rfl _ _ rfl (hB6.ext ((Ext.refl w6).alloc (.cells #[.int .i64 must[j].a, .int .i64 must[j].b, .bool must[j].same, .int .i64 must[j].time] 32))) rfl w6.heap.size 1 rfl (heap_alloc_new w6 _) (one_ver _ _ _ _) (y := must[j]) ⟨⟨rfl, HOKX.out⟩, rfl⟩ fresh_nil HLC.out (by decide) (by rw [World.size_alloc]; exact Nat.le_succ_of_le x6.size) (w0 := wb) (Nat.le_refl _) (by repeat (first | with_reducible exact Ext.refl _ | with_reducible assumption | with_reducible refine Ext.drew ?_ | with_reducible refine Ext.alloc ?_ _ | with_reducible refine Ext.trans ?_ (by with_reducible assumption))) ?_; intro v7 w7 hB7 xs7) | (refine step_app1 (R := verdictO) elemVer (by decide) rfl _ _ rfl hB6 rfl wb.heap.size 1 rfl ((x6.block (by simp)).trans (heap_alloc_new wb.drew _)) (one_ver _ _ _ _) (y := must[j]) ⟨⟨rfl, HOKX.out⟩, rfl⟩ fresh_nil HLC.out (by decide) x6.size (w0 := wb) (by simp) (by repeat (first | with_reducible exact Ext.refl _ | with_reducible assumption | with_reducible refine Ext.drew ?_ | with_reducible refine Ext.alloc ?_ _ | with_reducible refine Ext.trans ?_ (by with_reducible assumption))) ?_; intro v7 w7 hB7 xs7))
          all_goals
            have HX8 := hid (xs7.trans x8)
            obtain ⟨d0, d1, d2, d3⟩ := HBX.out _ HX8.out
            have hB4 := HB4.out.ext HX8.out
            have hB5 := HB5.out.ext HX8.out
            have hBM := HBM.out.ext HX8.out
            have hBs := Nat.le_trans HX.out.size HX8.out.size
            clear xs7 x8 hB7 x6 hB6 HCV
            cases cv with
            | true =>
              have HS := hid (HSTEP.out.trans (stP_yes HCVE.out.symm))
              have HLR := hid (show s2.length + 1 ≤ 1099511627776 from by have := HLL.out.2.1; omega)
              go_wp2_with (at_builtin; refine wpList_app1h (R := verdictO) elemVer (by decide) rfl _ _ rfl hB5 rfl _ 1 rfl (by simp) (one_ver _ _ _ _) (y := must[j]) ⟨⟨rfl, HOKX.out⟩, rfl⟩ fresh_nil HLR.out (by decide) hBs ?_; intro v9 w9 hB9 hE9 hA9)
              go_roundw
              case rel => exact ⟨j + 1, s1, s2 ++ [must[j]], by omega, by go_num, HS.out, hB4.stay fun b hb => hA9.keep b (hB4.lt.2 b hb).1 fun e => (HD4.out b hb).1 e, hB9, hBM.stay fun b hb => hA9.keep b (hBM.lt.2 b hb).1 fun e => HD5.out b e hb, (fun b hb => ⟨fun e => by
                rcases hA9.own b e with e | e
                · exact (HD4.out b hb).1 e
                · have := (hB4.lt.2 b hb).1; omega, (HD4.out b hb).2⟩), (fun b hb e => by
                rcases hA9.own b hb with e9 | e9
                · exact HD5.out b e9 e
                · have := (hBM.lt.2 b e).1; omega), ⟨by have := HLL.out.1; omega, by rw [List.length_append, List.length_singleton]; have := HLL.out.2.1; omega, HLL.out.2.2⟩, hE9 w1 (Nat.le_refl _) (HX.out.trans HX8.out)⟩
              case measure => simp [intOf]; omega
            | false =>
              have HS := hid (HSTEP.out.trans (stP_no HCVE.out.symm))
              go_wp2_with (at_builtin; refine wpList_app1h (R := verdictO) elemVer (by decide) rfl _ _ rfl hB4 rfl _ 1 rfl (by simp) (one_ver _ _ _ _) (y := must[j]) ⟨⟨rfl, HOKX.out⟩, rfl⟩ fresh_nil HLC.out (by decide) hBs ?_; intro v9 w9 hB9 hE9 hA9)
              go_roundw
              case rel => exact ⟨j + 1, s1 ++ [must[j]], s2, by omega, by go_num, HS.out, hB9, hB5.stay fun b hb => hA9.keep b (hB5.lt.2 b hb).1 fun e => (HD4.out b e).1 hb, hBM.stay fun b hb => hA9.keep b (hBM.lt.2 b hb).1 fun e => (HD4.out b e).2 hb, (fun b hb => by
                rcases hA9.own b hb with e9 | e9
                · exact HD4.out b e9
                · exact ⟨fun e => by have := (hB5.lt.2 b e).1; omega, fun e => by have := (hBM.lt.2 b e).1; omega⟩), HD5.out, ⟨by rw [List.length_append, List.length_singleton]; have := HLL.out.1; omega, by have := HLL.out.2.1; omega, HOKS.out⟩, hE9 w1 (Nat.le_refl _) (HX.out.trans HX8.out)⟩
              case measure => simp [intOf]; omega
        · have HFI := hid (show splitV xs = (sortS s1, sortS s2) from by
            have := HF.out
            rw [List.take_of_length_le (by omega), HMU.out] at this
            rw [HSP.out, this])
          have HLK := hid (And.intro (show s1.length ≤ 1048576 by omega) (show s2.length ≤ 1048576 by omega))
          clear hBm hD5
          go_wp2_with fail
          refine (sort_vers _ s1 _ _ hB4 HLK.out.1).mono ?_
          rintro e w3 ⟨rfl, hS4, hE3, hK3⟩
          have hB5' := hB5.stay fun b hb => hK3 b (hB5.lt.2 b hb).1 fun e => (hD4 b e).1 hb
          have hx3 := hE3 w1 (Nat.le_refl _) hx
          go_wp2_with fail
          refine (sort_vers _ s2 _ _ hB5' HLK.out.2).mono ?_
          rintro e w4 ⟨rfl, hS5, hE4, hK4⟩
          have hS4' := hS4.stay fun b hb => hK4 b (hS4.lt.2 b hb).1 fun e => (hD4 b hb).1 e
          have hx4 := hE4 w1 (Nat.le_refl _) hx3
          go_wp2_with fail
          obtain ⟨G1, q1, n1, m1⟩ := hS4'.doneV
          obtain ⟨G2, q2, n2, m2⟩ := hS5.doneV
          refine bodyPost_ret (v := .tuple #[u4, u5]) (by simp [results, Try.results7, go_sem]) rfl ?_
          exact ⟨u4, u5, G1, G2, rfl, by rw [HFI.out]; exact q1, by rw [HFI.out]; exact q2, ⟨List.nodup_append.2 ⟨n1, n2, fun a ha b hb e => by
            subst e
            exact (hD4 a (m1 a ha).2).1 (m2 a hb).2⟩, fun b hb => by
            rcases List.mem_append.1 hb with hb | hb
            · exact Nat.le_trans HX1.out.size (m1 b hb).1
            · exact Nat.le_trans HX1.out.size (m2 b hb).1⟩, HX1.out.trans hx4⟩

end Go.Proofs.Ytmembjjgkideeaa
