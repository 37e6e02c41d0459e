/-
  WALK: DescribeChanges (the program).
-/
import Derived.Test.YtfcbapaojoecgabMgEndCarId15

namespace Go.Proofs.Ytfcbapaojoecgab
open Go.RowKit

set_option maxHeartbeats 400000 in
set_option maxRecDepth 100000 in
theorem impl_DescribeChanges (v u : Value) (old now : List Entity) (w : World) (h : Sl entityR w v old) (h2 : Sl entityR w u now) (hb : msEnts old ≤ 1048576) (hb2 : msEnts now ≤ 1048576) :
    Calls Try.prog 23 #[v, u] w fun e w2 => ∃ v2 F, e = .returned v2 ∧ OwnSl changeO w2 v2 (desc old now) F ∧ NewF w F ∧ Ext w w2 := by
  obtain ⟨A, cap, rfl, hm⟩ := h.form
  obtain ⟨B, cap2, rfl, hm2⟩ := h2.form
  have hnil : ∀ W : World, OwnSl changeO W (.slice none 0 0) [] [] := fun W => .inl ⟨rfl, rfl, none, 0, rfl, Nat.zero_le _⟩
  have HN := hid hnil
  clear hnil
  go_enter Try.func23, Try.ntmps23
  go_wp2_with fail
  refine (impl_AreEntities _ old _ h hb).mono ?_
  rintro e w1 ⟨rfl, x1⟩
  by_cases ok1 : areEnts old = true
  · rw [ok1]
    have OK1 := hid ok1
    go_wp2_with fail
    refine (impl_AreEntities _ now _ (h2.mono x1) hb2).mono ?_
    rintro e w2 ⟨rfl, x2⟩
    by_cases ok2 : areEnts now = true
    · rw [ok2]
      have OK2 := hid ok2
      obtain ⟨s1, l1⟩ := ents_small ok1
      obtain ⟨s2, l2⟩ := ents_small ok2
      have DY := hid (desc_yes ok1 ok2)
      clear ok1 ok2
      have x3 : Ext w w2 := x1.trans x2
      clear x1 x2
      go_wp2_with fail
      go_loopw [5, 26] (fun t i wr => ∃ k : Nat, k ≤ old.length ∧ i = .int .i64 k ∧ Bld changeO wr w.heap.size 49 t ((old.take k).flatMap (descOld now)) [] ∧ Ext w wr) (fun _ i _ => old.length - (intOf i).toNat)
      case atStart => exact ⟨0, Nat.zero_le _, rfl, Bld.nil w2 _ _, x3⟩
      case round =>
        clear x3
        obtain ⟨k, hk, rfl, hB, hx⟩ := hrel
        by_cases hlt : k < old.length
        · obtain ⟨b, off, A2, cap3, rfl, hI, hsl, hc0, hc1⟩ := (h.mono hx).ent hlt
          have HF := hid (flat_step (descOld now) old k hlt)
          have hbl := bld_len (now := now) l1 k
          have hml : old[k].members.length ≤ 100 := by have := sumMem_at old k hlt; omega
          have hmb := (mostSt_bd old[k].members now h2.ent_ids).2
          obtain ⟨M, hM⟩ : ∃ M, M = mostF old[k].members now := ⟨_, rfl⟩
          rw [show (mostSt old[k].members now).2 = M from hM.symm] at hmb
          have HM := hid hM
          clear hM
          by_cases hat : 0 ≤ atId now old[k].id
          · obtain ⟨q, hq, hqe, hz9⟩ := atId_some hat; clear hz9
            have HQ := hid hqe
            clear hqe hat
            go_wp2_with fail
            refine (impl_entityWith_yes _ now _ q _ (h2.mono (by repeat (first | with_reducible exact Ext.refl _ | with_reducible assumption | with_reducible refine Ext.drew ?_ | with_reducible refine Ext.alloc ?_ _ | (refine Ext.setCell ?_ (by simp) _) | with_reducible refine Ext.trans ?_ (by with_reducible assumption)))) hq HQ.out).mono ?_
            rintro e w4 ⟨m, rfl, hm4, x4⟩
            obtain ⟨A5, cap5, e5, _⟩ := hm4.form
            subst e5
            have x5 : Ext (wr.alloc (.cells #[.int .i64 old[k].id, .slice A2 old[k].members.length cap3] 42)) (w4.alloc (.cells #[.int .i64 now[q].id, .slice A5 now[q].members.length cap5] 42)) := x4.alloc _
            obtain ⟨c50, c51⟩ := Ext.box_2 x5
            go_wp2_with fail
            refine (impl_successor _ _ now old[k].members _ (h2.mono ((hx.alloc _).trans x5)) (hsl.mono (((Ext.refl _).alloc _).trans x5)) hml).mono ?_
            rintro e w6 ⟨rfl, x6⟩
            rw [← HM.out]
            obtain ⟨c60, c61⟩ := Ext.box_2 (x5.trans x6)
            obtain ⟨c62, c63⟩ := Ext.box_2 x6
            go_wp2_with fail
            refine (slices_Equal _ _ now[q].members old[k].members _ (hm4.mono (((Ext.refl _).alloc _).trans x6)) (hsl.mono (((Ext.refl _).alloc _).trans (x5.trans x6)))).mono ?_
            rintro e w7 ⟨rfl, x7⟩
            have x8 : Ext wr w7 := ((Ext.refl _).alloc _).trans ((x5.trans x6).trans x7)
            obtain ⟨c70, _⟩ := Ext.box_2 ((x5.trans x6).trans x7)
            by_cases hm3 : now[q].members = old[k].members
            · rw [eqB_true hm3]
              have H3 := hid hm3
              clear hm3
              go_wp2
              go_roundw
              case rel => exact ⟨k + 1, by omega, by go_num, by rw [HF.out, descOld_same hq HQ.out H3.out, List.append_nil]; exact hB.ext x8, hx.trans x8⟩
              case measure => simp [intOf]; omega
            · rw [eqB_false hm3]
              have H3 := hid hm3
              clear hm3
              go_wp2_with (at_builtin; refine wpList_app1 (R := changeO) elemChange (by decide) rfl _ _ rfl (hB.ext x8) rfl _ 1 rfl (by simp) (one_ints3 _ _ _) (y := ⟨5, old[k].id, 0⟩) ⟨⟨rfl, ⟨by simp [I64], hI, by simp [I64]⟩⟩, rfl⟩ fresh_nil (by omega) (by decide) (Nat.le_trans hx.size x8.size) ?_; intro v9 w9 hB9 hE9)
              go_roundw
              case rel => exact ⟨k + 1, by omega, by go_num, by rw [HF.out, descOld_mem hq HQ.out H3.out]; exact hB9, hE9 w (Nat.le_refl _) (hx.trans x8)⟩
              case measure => simp [intOf]; omega
          · have hlt0 : atId now old[k].id < 0 := by omega
            have HL := hid hlt0
            clear hat hlt0
            go_wp2_with fail
            refine (impl_entityWith_no _ now _ _ (h2.mono (by repeat (first | with_reducible exact Ext.refl _ | with_reducible assumption | with_reducible refine Ext.drew ?_ | with_reducible refine Ext.alloc ?_ _ | (refine Ext.setCell ?_ (by simp) _) | with_reducible refine Ext.trans ?_ (by with_reducible assumption)))) HL.out).mono ?_
            rintro e w4 ⟨rfl, x4⟩
            have x5 : Ext (wr.alloc (.cells #[.int .i64 old[k].id, .slice A2 old[k].members.length cap3] 42)) (w4.alloc (.cells #[.int .i64 0, .slice none 0 0] 42)) := x4.alloc _
            obtain ⟨c50, c51⟩ := Ext.box_2 x5
            go_wp2_with fail
            refine (impl_successor _ _ now old[k].members _ (h2.mono ((hx.alloc _).trans x5)) (hsl.mono (((Ext.refl _).alloc _).trans x5)) hml).mono ?_
            rintro e w6 ⟨rfl, x6⟩
            rw [← HM.out]
            obtain ⟨c60, c61⟩ := Ext.box_2 (x5.trans x6)
            have x8 : Ext wr w6 := ((Ext.refl _).alloc _).trans (x5.trans x6)
            by_cases hm0 : M = 0
            · have hM1 : (M == 0) = true := by simp [hm0]
              have H0 := hid hm0
              clear hm0
              go_wp2_with (at_builtin; refine wpList_app1 (R := changeO) elemChange (by decide) rfl _ _ rfl (hB.ext x8) rfl _ 1 rfl (by simp) (one_ints3 _ _ _) (y := ⟨2, old[k].id, 0⟩) ⟨⟨rfl, ⟨by simp [I64], hI, by simp [I64]⟩⟩, rfl⟩ fresh_nil (by omega) (by decide) (Nat.le_trans hx.size x8.size) ?_; intro v9 w9 hB9 hE9)
              go_roundw
              case rel => exact ⟨k + 1, by omega, by go_num, by rw [HF.out, descOld_gone HL.out (HM.out ▸ H0.out)]; exact hB9, hE9 w (Nat.le_refl _) (hx.trans x8)⟩
              case measure => simp [intOf]; omega
            · have hM1 : (M == 0) = false := by simp [hm0]
              have H0 := hid hm0
              clear hm0
              go_wp2_with (at_builtin; refine wpList_app1 (R := changeO) elemChange (by decide) rfl _ _ rfl (hB.ext x8) rfl _ 1 rfl (by simp) (one_ints3 _ _ _) (y := ⟨3, old[k].id, M⟩) ⟨⟨rfl, ⟨by simp [I64], hI, hmb⟩⟩, rfl⟩ fresh_nil (by omega) (by decide) (Nat.le_trans hx.size x8.size) ?_; intro v9 w9 hB9 hE9)
              go_roundw
              case rel => exact ⟨k + 1, by omega, by go_num, by rw [HF.out, descOld_merged HL.out (HM.out ▸ H0.out), ← HM.out]; exact hB9, hE9 w (Nat.le_refl _) (hx.trans x8)⟩
              case measure => simp [intOf]; omega
        · rw [List.take_of_length_le (by omega)] at hB
          go_wp2_with fail
          go_loopw [5, 78] (fun t i wr => ∃ k : Nat, k ≤ now.length ∧ i = .int .i64 k ∧ Bld changeO wr w.heap.size 49 t (old.flatMap (descOld now) ++ (now.take k).flatMap (descNew old)) [] ∧ Ext w wr) (fun _ i _ => now.length - (intOf i).toNat)
          case atStart => exact ⟨0, Nat.zero_le _, rfl, by simpa using hB, hx⟩
          case round =>
            clear hB hx hk hlt
            obtain ⟨k, hk, rfl, hB, hx⟩ := hrel
            by_cases hlt : k < now.length
            · obtain ⟨b, off, A2, cap3, rfl, hI, hsl, hc0, hc1⟩ := (h2.mono hx).ent hlt
              have HF := hid (flat_step (descNew old) now k hlt)
              have hbl := bld_len2 l1 l2 k
              have hml : now[k].members.length ≤ 100 := by have := sumMem_at now k hlt; omega
              have hmb := (mostSt_bd now[k].members old h.ent_ids).2
              obtain ⟨M, hM⟩ : ∃ M, M = mostF now[k].members old := ⟨_, rfl⟩
              rw [show (mostSt now[k].members old).2 = M from hM.symm] at hmb
              have HM := hid hM
              clear hM
              by_cases hat : 0 ≤ atId old now[k].id
              · obtain ⟨q, hq, hqe, hz9⟩ := atId_some hat; clear hz9
                have HA := hid hat
                have HQ := hid hqe
                clear hqe hat
                go_wp2_with fail
                refine (impl_entityWith_yes _ old _ q _ (h.mono (by repeat (first | with_reducible exact Ext.refl _ | with_reducible assumption | with_reducible refine Ext.drew ?_ | with_reducible refine Ext.alloc ?_ _ | (refine Ext.setCell ?_ (by simp) _) | with_reducible refine Ext.trans ?_ (by with_reducible assumption)))) hq HQ.out).mono ?_
                rintro e w4 ⟨m, rfl, hm4, x4⟩
                obtain ⟨A5, cap5, e5, _⟩ := hm4.form
                subst e5
                have x8 : Ext wr (w4.alloc (.cells #[.int .i64 old[q].id, .slice A5 old[q].members.length cap5] 42)) := (by repeat (first | with_reducible exact Ext.refl _ | with_reducible assumption | with_reducible refine Ext.drew ?_ | with_reducible refine Ext.alloc ?_ _ | (refine Ext.setCell ?_ (by simp) _) | with_reducible refine Ext.trans ?_ (by with_reducible assumption)))
                go_wp2
                go_roundw
                case rel => exact ⟨k + 1, by omega, by go_num, by rw [HF.out, descNew_old HA.out, List.append_nil]; exact hB.ext x8, hx.trans x8⟩
                case measure => simp [intOf]; omega
              · have hlt0 : atId old now[k].id < 0 := by omega
                have HL := hid hlt0
                clear hat hlt0
                go_wp2_with fail
                refine (impl_entityWith_no _ old _ _ (h.mono (by repeat (first | with_reducible exact Ext.refl _ | with_reducible assumption | with_reducible refine Ext.drew ?_ | with_reducible refine Ext.alloc ?_ _ | (refine Ext.setCell ?_ (by simp) _) | with_reducible refine Ext.trans ?_ (by with_reducible assumption)))) HL.out).mono ?_
                rintro e w4 ⟨rfl, x4⟩
                have x5 : Ext (wr.alloc (.cells #[.int .i64 now[k].id, .slice A2 now[k].members.length cap3] 42)) (w4.alloc (.cells #[.int .i64 0, .slice none 0 0] 42)) := x4.alloc _
                obtain ⟨c50, c51⟩ := Ext.box_2 x5
                go_wp2_with fail
                refine (impl_successor _ _ old now[k].members _ (h.mono ((hx.alloc _).trans x5)) (hsl.mono (((Ext.refl _).alloc _).trans x5)) hml).mono ?_
                rintro e w6 ⟨rfl, x6⟩
                rw [← HM.out]
                obtain ⟨c60, c61⟩ := Ext.box_2 (x5.trans x6)
                have x8 : Ext wr w6 := ((Ext.refl _).alloc _).trans (x5.trans x6)
                by_cases hm0 : M = 0
                · have hM1 : (M == 0) = true := by simp [hm0]
                  have H0 := hid hm0
                  clear hm0
                  go_wp2_with (at_builtin; refine wpList_app1 (R := changeO) elemChange (by decide) rfl _ _ rfl (hB.ext x8) rfl _ 1 rfl (by simp) (one_ints3 _ _ _) (y := ⟨1, now[k].id, 0⟩) ⟨⟨rfl, ⟨by simp [I64], hI, by simp [I64]⟩⟩, rfl⟩ fresh_nil (by omega) (by decide) (Nat.le_trans hx.size x8.size) ?_; intro v9 w9 hB9 hE9)
                  go_roundw
                  case rel => exact ⟨k + 1, by omega, by go_num, by rw [HF.out, descNew_born HL.out (HM.out ▸ H0.out), ← List.append_assoc]; exact hB9, hE9 w (Nat.le_refl _) (hx.trans x8)⟩
                  case measure => simp [intOf]; omega
                · have hM1 : (M == 0) = false := by simp [hm0]
                  have H0 := hid hm0
                  clear hm0
                  go_wp2_with (at_builtin; refine wpList_app1 (R := changeO) elemChange (by decide) rfl _ _ rfl (hB.ext x8) rfl _ 1 rfl (by simp) (one_ints3 _ _ _) (y := ⟨4, now[k].id, M⟩) ⟨⟨rfl, ⟨by simp [I64], hI, hmb⟩⟩, rfl⟩ fresh_nil (by omega) (by decide) (Nat.le_trans hx.size x8.size) ?_; intro v9 w9 hB9 hE9)
                  go_roundw
                  case rel => exact ⟨k + 1, by omega, by go_num, by rw [HF.out, descNew_split HL.out (HM.out ▸ H0.out), ← HM.out, ← List.append_assoc]; exact hB9, hE9 w (Nat.le_refl _) (hx.trans x8)⟩
                  case measure => simp [intOf]; omega
            · go_wp2
              go_ret
              rw [List.take_of_length_le (by omega)] at hB
              obtain ⟨F', d1, d2, d3⟩ := hB.done
              exact ⟨_, F', rfl, by rw [DY.out]; exact d1, ⟨d2, d3⟩, hx⟩
    · have ok2' : areEnts now = false := by simpa using ok2
      rw [ok2']
      have D := hid (desc_no (old := old) (now := now) fun h9 => ok2 h9.2)
      clear ok2 ok2' ok1
      go_wp2
      go_ret
      first | exact ⟨_, [], rfl, by rw [D.out]; exact HN.out _, .nil _, (by repeat (first | with_reducible exact Ext.refl _ | with_reducible assumption | with_reducible refine Ext.drew ?_ | with_reducible refine Ext.alloc ?_ _ | with_reducible refine Ext.trans ?_ (by with_reducible assumption)))⟩ | exact ⟨_, rfl, [], by rw [D.out]; exact HN.out _, .nil _, (by repeat (first | with_reducible exact Ext.refl _ | with_reducible assumption | with_reducible refine Ext.drew ?_ | with_reducible refine Ext.alloc ?_ _ | with_reducible refine Ext.trans ?_ (by with_reducible assumption)))⟩
  · have ok1' : areEnts old = false := by simpa using ok1
    rw [ok1']
    have D := hid (desc_no (old := old) (now := now) fun h9 => ok1 h9.1)
    clear ok1 ok1'
    go_wp2
    go_ret
    first | exact ⟨_, [], rfl, by rw [D.out]; exact HN.out _, .nil _, (by repeat (first | with_reducible exact Ext.refl _ | with_reducible assumption | with_reducible refine Ext.drew ?_ | with_reducible refine Ext.alloc ?_ _ | with_reducible refine Ext.trans ?_ (by with_reducible assumption)))⟩ | exact ⟨_, rfl, [], by rw [D.out]; exact HN.out _, .nil _, (by repeat (first | with_reducible exact Ext.refl _ | with_reducible assumption | with_reducible refine Ext.drew ?_ | with_reducible refine Ext.alloc ?_ _ | with_reducible refine Ext.trans ?_ (by with_reducible assumption)))⟩
end Go.Proofs.Ytfcbapaojoecgab
