/-
  PLAIN LAW AND WALKS: DescribeChanges (both).
-/
import Derived.Test.YtfcbapaojoecgabMgEndFnId14
import Derived.Test.YtfcbapaojoecgabMgEndFnId6
import Derived.Test.YtfcbapaojoecgabMgEndFnId0

namespace Go.Proofs.Ytfcbapaojoecgab
open Go.RowKit

theorem infoChange : (Try.prog.info? 49).map (fun i => (i.zero, i.size, i.bytes)) = some (some (.agg #[.int .i64 0, .int .i64 0, .int .i64 0]), 3, 24) := by kernel_rfl
theorem elemChange : ElemT Try.prog 46 49 changeO.n 24 := by
  obtain ⟨i, h1, h2, h3, h4⟩ := info_parts infoChange
  exact ⟨Try.underlying46, i, _, h1, h2, h3, h4, rfl⟩
theorem one_ints3 (a b c : Int) : ∀ u ∈ (#[Value.int .i64 a, .int .i64 b, .int .i64 c] : Array Value).toList, u.oneCell' = true := by simp [Value.oneCell']

open Classical in
/-- what is told of an old entity -/
noncomputable def descOld (now : List Entity) (e : Entity) : List Change :=
  if 0 ≤ atId now e.id then (if (now.getD (atId now e.id).toNat ⟨0, []⟩).members = e.members then [] else [⟨5, e.id, 0⟩])
  else if mostF e.members now = 0 then [⟨2, e.id, 0⟩] else [⟨3, e.id, mostF e.members now⟩]
/-- what is told of a new one -/
def descNew (old : List Entity) (e : Entity) : List Change :=
  if 0 ≤ atId old e.id then [] else if mostF e.members old = 0 then [⟨1, e.id, 0⟩] else [⟨4, e.id, mostF e.members old⟩]
noncomputable def desc (old now : List Entity) : List Change := if areEnts old && areEnts now then old.flatMap (descOld now) ++ now.flatMap (descNew old) else []
theorem descOld_len (now : List Entity) (e : Entity) : (descOld now e).length ≤ 1 := by unfold descOld; split <;> split <;> simp
theorem descNew_len (old : List Entity) (e : Entity) : (descNew old e).length ≤ 1 := by unfold descNew; split <;> (try split) <;> simp
theorem goS_sum (g : List (List Int)) : ∀ all, goS all g = true → all.length + sumLen g ≤ 8 := by
  induction g with
  | nil => intro all h; simpa [goS, sumLen] using h
  | cons x g ih =>
    intro all h
    rw [goS, Bool.and_eq_true] at h
    have := ih _ h.2
    rw [List.length_append] at this
    unfold sumLen at this ⊢
    simp only [List.map_cons, List.sum_cons]
    omega
theorem goS_ne (g : List (List Int)) : ∀ all, goS all g = true → g.length ≤ sumLen g := by
  induction g with
  | nil => intro all _; simp
  | cons x g ih =>
    intro all h
    rw [goS, Bool.and_eq_true, Bool.and_eq_true] at h
    have := ih _ h.2
    have hx : ¬ x.length = 0 := by simpa using h.1.2
    unfold sumLen at this ⊢
    simp only [List.map_cons, List.sum_cons, List.length_cons]
    omega
theorem ents_small {xs : List Entity} (h : areEnts xs = true) : sumMem xs ≤ 8 ∧ xs.length ≤ 8 := by
  unfold areEnts at h
  rw [Bool.and_eq_true] at h
  have h1 := goS_sum _ _ h.2
  have h2 := goS_ne _ _ h.2
  rw [sumLen_mems, List.length_nil] at h1
  rw [sumLen_mems, mems_len] at h2
  omega
theorem desc_no {old now : List Entity} (h : ¬ (areEnts old = true ∧ areEnts now = true)) : desc old now = [] := by
  unfold desc; rw [if_neg (by simpa using h)]
theorem desc_yes {old now : List Entity} (h : areEnts old = true) (h2 : areEnts now = true) : desc old now = old.flatMap (descOld now) ++ now.flatMap (descNew old) := by
  unfold desc; rw [if_pos (by simp [h, h2])]
theorem descOld_same {now : List Entity} {e : Entity} {q : Nat} (hq : q < now.length) (he : atId now e.id = q) (hm : now[q].members = e.members) : descOld now e = [] := by
  unfold descOld; rw [if_pos (by omega), he, Int.toNat_natCast, getD_at hq, if_pos hm]
theorem descOld_mem {now : List Entity} {e : Entity} {q : Nat} (hq : q < now.length) (he : atId now e.id = q) (hm : ¬ now[q].members = e.members) : descOld now e = [⟨5, e.id, 0⟩] := by
  unfold descOld; rw [if_pos (by omega), he, Int.toNat_natCast, getD_at hq, if_neg hm]
theorem descOld_gone {now : List Entity} {e : Entity} (he : atId now e.id < 0) (hm : mostF e.members now = 0) : descOld now e = [⟨2, e.id, 0⟩] := by
  unfold descOld; rw [if_neg (by omega), if_pos hm]
theorem descOld_merged {now : List Entity} {e : Entity} (he : atId now e.id < 0) (hm : ¬ mostF e.members now = 0) : descOld now e = [⟨3, e.id, mostF e.members now⟩] := by
  unfold descOld; rw [if_neg (by omega), if_neg hm]
theorem descNew_old {old : List Entity} {e : Entity} (he : 0 ≤ atId old e.id) : descNew old e = [] := by unfold descNew; rw [if_pos he]
theorem descNew_born {old : List Entity} {e : Entity} (he : atId old e.id < 0) (hm : mostF e.members old = 0) : descNew old e = [⟨1, e.id, 0⟩] := by
  unfold descNew; rw [if_neg (by omega), if_pos hm]
theorem descNew_split {old : List Entity} {e : Entity} (he : atId old e.id < 0) (hm : ¬ mostF e.members old = 0) : descNew old e = [⟨4, e.id, mostF e.members old⟩] := by
  unfold descNew; rw [if_neg (by omega), if_neg hm]
theorem bld_len {old now : List Entity} (h8 : old.length ≤ 8) (k : Nat) : ((old.take k).flatMap (descOld now)).length ≤ 8 := by
  have := flat_len (descOld now) (descOld_len now) (old.take k)
  rw [List.length_take] at this; omega
theorem bld_len2 {old now : List Entity} (h8 : old.length ≤ 8) (h9 : now.length ≤ 8) (k : Nat) : (old.flatMap (descOld now) ++ (now.take k).flatMap (descNew old)).length ≤ 16 := by
  have h1 := flat_len (descOld now) (descOld_len now) old
  have h2 := flat_len (descNew old) (descNew_len old) (now.take k)
  rw [List.length_take] at h2; rw [List.length_append]; omega

set_option maxHeartbeats 400000 in
set_option maxRecDepth 100000 in
theorem spec_DescribeChanges (v u : Value) (old now : List Entity) (w : World) (h : Sl entityR w v old) (h2 : Sl entityR w u now) (hb : msEnts old ≤ 1048576) (hb2 : msEnts now ≤ 1048576) :
    Calls Try.prog 24 #[v, u] w fun e w2 => ∃ v2 F, e = .returned v2 ∧ OwnSl changeO w2 v2 (desc old now) F ∧ NewF w F ∧ Ext w w2 := by
  obtain ⟨A, cap, rfl, hm⟩ := h.form
  obtain ⟨B, cap2, rfl, hm2⟩ := h2.form
  have hL := (Bld.lit (R := changeO) w (Nat.le_refl _) 49)
  go_enter Try.func24, Try.ntmps24
  go_wp2_with fail
  refine (spec_AreEntities _ old _ (h.mono (by repeat (first | with_reducible exact Ext.refl _ | with_reducible assumption | with_reducible refine Ext.drew ?_ | with_reducible refine Ext.alloc ?_ _ | (refine Ext.setCell ?_ (by simp) _) | with_reducible refine Ext.trans ?_ (by with_reducible assumption)))) hb).mono ?_
  rintro e w1 ⟨rfl, x1⟩
  by_cases ok1 : areEnts old = true
  · rw [ok1]
    have OK1 := hid ok1
    go_wp2_with fail
    refine (spec_AreEntities _ now _ (h2.mono (by repeat (first | with_reducible exact Ext.refl _ | with_reducible assumption | with_reducible refine Ext.drew ?_ | with_reducible refine Ext.alloc ?_ _ | (refine Ext.setCell ?_ (by simp) _) | with_reducible refine Ext.trans ?_ (by with_reducible assumption)))) hb2).mono ?_
    rintro e w2 ⟨rfl, x2⟩
    by_cases ok2 : areEnts now = true
    · rw [ok2]
      have OK2 := hid ok2
      obtain ⟨s1, l1⟩ := ents_small ok1
      obtain ⟨s2, l2⟩ := ents_small ok2
      have DY := hid (desc_yes ok1 ok2)
      clear ok1 ok2
      have hL2 := (hL.ext x1).ext x2
      have x3 : Ext w w2 := (by repeat (first | with_reducible exact Ext.refl _ | with_reducible assumption | with_reducible refine Ext.drew ?_ | with_reducible refine Ext.alloc ?_ _ | (refine Ext.setCell ?_ (by simp) _) | with_reducible refine Ext.trans ?_ (by with_reducible assumption)))
      clear hL
      go_wp2_with fail
      go_loopw [5, 6] (fun t i wr => ∃ k : Nat, k ≤ old.length ∧ i = .int .i64 k ∧ Bld changeO wr w.heap.size 49 t ((old.take k).flatMap (descOld now)) [] ∧ Ext w wr) (fun _ i _ => old.length - (intOf i).toNat)
      case atStart => exact ⟨0, Nat.zero_le _, rfl, by simpa using hL2, x3⟩
      case round =>
        clear hL2 x1 x2 x3
        obtain ⟨k, hk, rfl, hB, hx⟩ := hrel
        by_cases hlt : k < old.length
        · obtain ⟨b, off, A2, cap3, rfl, hI, hsl, hc0, hc1⟩ := (h.mono hx).ent hlt
          have HF := hid (flat_step (descOld now) old k hlt)
          have hbl := bld_len (now := now) l1 k
          have h2r := h2.mono hx
          have hmb := (mostSt_bd old[k].members now h2.ent_ids).2
          obtain ⟨M, hM⟩ : ∃ M, M = mostF old[k].members now := ⟨_, rfl⟩
          rw [show (mostSt old[k].members now).2 = M from hM.symm] at hmb
          have HM := hid hM
          clear hM
          by_cases hat : 0 ≤ atId now old[k].id
          · obtain ⟨q, hq, hqe, _⟩ := atId_some hat
            obtain ⟨b2, off2, A3, cap4, e9, hI2, hsl2, hd0, hd1⟩ := h2r.ent hq
            subst e9
            have hcz : ∀ z : ExtOf wr, z.1.cell? ⟨b, off + k * 2 + 1, none⟩ = _ := fun z => z.2.cell hc1
            have hcz2 : ∀ z : ExtOf wr, z.1.cell? ⟨b2, off2 + q * 2 + 1, none⟩ = _ := fun z => z.2.cell hd1
            have HQ := hid hqe
            clear hqe hat
            by_cases hm3 : now[q].members = old[k].members
            · have h5 : cmpL old[k].members now[q].members = 0 := cmpL_zero.2 hm3.symm
              have H3 := hid hm3
              clear hm3
              go_wp2_with (first | (go_at_call 63; refine (spec_l26At _ now _ _ h2r).mono ?_; rintro e w4 ⟨rfl, rfl⟩; rw [HQ.out]) | (go_at_call 64; refine (spec_l26Most _ _ old[k].members now _ hsl h2r).mono ?_; rintro e w4 ⟨rfl, rfl⟩; rw [← HM.out]) | fail)
              refine wp_region_ext (by kernel_rfl) (by kernel_rfl) ?_
              repeat (go_big_quiet_step ((first | (go_at_call 65; exact quiet_ext (Calls.mono ((spec_l8Ints _ _ old[k].members now[q].members _ (hsl.mono (Subtype.property _)) (hsl2.mono (Subtype.property _)))) fun _ _ h9 => ⟨h9.1.trans (ret_int h5), h9.2⟩)))))
              refine wpQuiet_nil ?_
              rintro w5 ⟨⟨_, x5⟩, rfl⟩
              go_wp2
              go_roundw
              case rel => exact ⟨k + 1, by omega, by go_num, by rw [HF.out, descOld_same hq HQ.out H3.out, List.append_nil]; exact hB.ext x5, hx.trans x5⟩
              case measure => simp [intOf]; omega
            · have h5 : (cmpL old[k].members now[q].members != 0) = true := by simp [cmpL_zero]; exact fun e => hm3 e.symm
              have h64 := cmpL_64 old[k].members now[q].members
              have H3 := hid hm3
              clear hm3
              go_wp2_with (first | (go_at_call 63; refine (spec_l26At _ now _ _ h2r).mono ?_; rintro e w4 ⟨rfl, rfl⟩; rw [HQ.out]) | (go_at_call 64; refine (spec_l26Most _ _ old[k].members now _ hsl h2r).mono ?_; rintro e w4 ⟨rfl, rfl⟩; rw [← HM.out]) | fail)
              refine wp_region_ext (by kernel_rfl) (by kernel_rfl) ?_
              repeat (go_big_quiet_step ((first | (go_at_call 65; exact quiet_ext ((spec_l8Ints _ _ old[k].members now[q].members _ (hsl.mono (Subtype.property _)) (hsl2.mono (Subtype.property _))))))))
              refine wpQuiet_nil ?_
              rintro w5 ⟨⟨_, x5⟩, rfl⟩
              have hc05 := x5.cell hc0
              go_wp2_with (at_builtin; refine wpList_app1 (R := changeO) elemChange (by decide) rfl _ _ rfl (hB.ext x5) rfl _ 1 rfl (by simp) (one_ints3 _ _ _) (y := ⟨5, old[k].id, 0⟩) ⟨⟨rfl, ⟨by simp [I64], hI, by simp [I64]⟩⟩, rfl⟩ fresh_nil (by omega) (by decide) (Nat.le_trans hx.size x5.size) ?_; intro v9 w9 hB9 hE9)
              go_roundw
              case rel => exact ⟨k + 1, by omega, by go_num, by rw [HF.out, descOld_mem hq HQ.out H3.out]; exact hB9, hE9 w (Nat.le_refl _) (hx.trans x5)⟩
              case measure => simp [intOf]; omega
          · have hlt0 : atId now old[k].id < 0 := by omega
            obtain ⟨L, hL⟩ : ∃ L, L = atId now old[k].id := ⟨_, rfl⟩
            have hbd := atId_bd now old[k].id
            rw [← hL] at hlt0 hbd
            have HL := hid hL
            clear hat hL
            by_cases hm0 : M = 0
            · have hM1 : (M == 0) = true := by simp [hm0]
              have H0 := hid hm0
              clear hm0
              go_wp2_with (first | (go_at_call 63; refine (spec_l26At _ now _ _ h2r).mono ?_; rintro e w4 ⟨rfl, rfl⟩; rw [← HL.out]) | (go_at_call 64; refine (spec_l26Most _ _ old[k].members now _ hsl h2r).mono ?_; rintro e w4 ⟨rfl, rfl⟩; rw [← HM.out]) | (at_builtin; refine wpList_app1 (R := changeO) elemChange (by decide) rfl _ _ rfl (hB) rfl _ 1 rfl (by simp) (one_ints3 _ _ _) (y := ⟨2, old[k].id, 0⟩) ⟨⟨rfl, ⟨by simp [I64], hI, by simp [I64]⟩⟩, rfl⟩ fresh_nil (by omega) (by decide) (hx.size) ?_; intro v9 w9 hB9 hE9))
              go_roundw
              case rel => exact ⟨k + 1, by omega, by go_num, by rw [HF.out, descOld_gone (HL.out ▸ hlt0) (HM.out ▸ H0.out)]; exact hB9, hE9 w (Nat.le_refl _) hx⟩
              case measure => simp [intOf]; omega
            · have hM1 : (M == 0) = false := by simp [hm0]
              have H0 := hid hm0
              clear hm0
              go_wp2_with (first | (go_at_call 63; refine (spec_l26At _ now _ _ h2r).mono ?_; rintro e w4 ⟨rfl, rfl⟩; rw [← HL.out]) | (go_at_call 64; refine (spec_l26Most _ _ old[k].members now _ hsl h2r).mono ?_; rintro e w4 ⟨rfl, rfl⟩; rw [← HM.out]) | (at_builtin; refine wpList_app1 (R := changeO) elemChange (by decide) rfl _ _ rfl (hB) rfl _ 1 rfl (by simp) (one_ints3 _ _ _) (y := ⟨3, old[k].id, M⟩) ⟨⟨rfl, ⟨by simp [I64], hI, hmb⟩⟩, rfl⟩ fresh_nil (by omega) (by decide) (hx.size) ?_; intro v9 w9 hB9 hE9))
              go_roundw
              case rel => exact ⟨k + 1, by omega, by go_num, by rw [HF.out, descOld_merged (HL.out ▸ hlt0) (HM.out ▸ H0.out), ← HM.out]; exact hB9, hE9 w (Nat.le_refl _) hx⟩
              case measure => simp [intOf]; omega
        · rw [List.take_of_length_le (by omega)] at hB
          go_wp2_with fail
          go_loopw [5, 9] (fun t i wr => ∃ k : Nat, k ≤ now.length ∧ i = .int .i64 k ∧ Bld changeO wr w.heap.size 49 t (old.flatMap (descOld now) ++ (now.take k).flatMap (descNew old)) [] ∧ Ext w wr) (fun _ i _ => now.length - (intOf i).toNat)
          case atStart => exact ⟨0, Nat.zero_le _, rfl, by simpa using hB, hx⟩
          case round =>
            clear hB hx hk hlt
            obtain ⟨k, hk, rfl, hB, hx⟩ := hrel
            by_cases hlt : k < now.length
            · obtain ⟨b, off, A2, cap3, rfl, hI, hsl, hc0, hc1⟩ := (h2.mono hx).ent hlt
              have HF := hid (flat_step (descNew old) now k hlt)
              have hbl := bld_len2 l1 l2 k
              have h1r := h.mono hx
              have hmb := (mostSt_bd now[k].members old h.ent_ids).2
              obtain ⟨M, hM⟩ : ∃ M, M = mostF now[k].members old := ⟨_, rfl⟩
              rw [show (mostSt now[k].members old).2 = M from hM.symm] at hmb
              have HM := hid hM
              clear hM
              obtain ⟨L, hL⟩ : ∃ L, L = atId old now[k].id := ⟨_, rfl⟩
              have hbd := atId_bd old now[k].id
              rw [← hL] at hbd
              have HL := hid hL
              clear hL
              by_cases hat : 0 ≤ L
              · go_wp2_with (first | (go_at_call 63; refine (spec_l26At _ old _ _ h1r).mono ?_; rintro e w4 ⟨rfl, rfl⟩; rw [← HL.out]) | (go_at_call 64; refine (spec_l26Most _ _ now[k].members old _ hsl h1r).mono ?_; rintro e w4 ⟨rfl, rfl⟩; rw [← HM.out]))
                go_roundw
                case rel => exact ⟨k + 1, by omega, by go_num, by rw [HF.out, descNew_old (HL.out ▸ hat), List.append_nil]; exact hB, hx⟩
                case measure => simp [intOf]; omega
              · have hlt0 : L < 0 := by omega
                clear hat
                by_cases hm0 : M = 0
                · have hM1 : (M == 0) = true := by simp [hm0]
                  have H0 := hid hm0
                  clear hm0
                  go_wp2_with (first | (go_at_call 63; refine (spec_l26At _ old _ _ h1r).mono ?_; rintro e w4 ⟨rfl, rfl⟩; rw [← HL.out]) | (go_at_call 64; refine (spec_l26Most _ _ now[k].members old _ hsl h1r).mono ?_; rintro e w4 ⟨rfl, rfl⟩; rw [← HM.out]) | (at_builtin; refine wpList_app1 (R := changeO) elemChange (by decide) rfl _ _ rfl (hB) rfl _ 1 rfl (by simp) (one_ints3 _ _ _) (y := ⟨1, now[k].id, 0⟩) ⟨⟨rfl, ⟨by simp [I64], hI, by simp [I64]⟩⟩, rfl⟩ fresh_nil (by omega) (by decide) (hx.size) ?_; intro v9 w9 hB9 hE9))
                  go_roundw
                  case rel => exact ⟨k + 1, by omega, by go_num, by rw [HF.out, descNew_born (HL.out ▸ hlt0) (HM.out ▸ H0.out), ← List.append_assoc]; exact hB9, hE9 w (Nat.le_refl _) hx⟩
                  case measure => simp [intOf]; omega
                · have hM1 : (M == 0) = false := by simp [hm0]
                  have H0 := hid hm0
                  clear hm0
                  go_wp2_with (first | (go_at_call 63; refine (spec_l26At _ old _ _ h1r).mono ?_; rintro e w4 ⟨rfl, rfl⟩; rw [← HL.out]) | (go_at_call 64; refine (spec_l26Most _ _ now[k].members old _ hsl h1r).mono ?_; rintro e w4 ⟨rfl, rfl⟩; rw [← HM.out]) | (at_builtin; refine wpList_app1 (R := changeO) elemChange (by decide) rfl _ _ rfl (hB) rfl _ 1 rfl (by simp) (one_ints3 _ _ _) (y := ⟨4, now[k].id, M⟩) ⟨⟨rfl, ⟨by simp [I64], hI, hmb⟩⟩, rfl⟩ fresh_nil (by omega) (by decide) (hx.size) ?_; intro v9 w9 hB9 hE9))
                  go_roundw
                  case rel => exact ⟨k + 1, by omega, by go_num, by rw [HF.out, descNew_split (HL.out ▸ hlt0) (HM.out ▸ H0.out), ← HM.out, ← List.append_assoc]; exact hB9, hE9 w (Nat.le_refl _) hx⟩
                  case measure => simp [intOf]; omega
            · go_wp2
              go_ret
              rw [List.take_of_length_le (by omega)] at hB
              obtain ⟨F', d1, d2, d3⟩ := hB.done
              exact ⟨_, F', rfl, by rw [DY.out]; exact d1, ⟨d2, d3⟩, hx⟩
    · have ok2' : areEnts now = false := by simpa using ok2
      rw [ok2']
      have D := hid (desc_no (old := old) (now := now) fun h9 => ok2 h9.2)
      clear ok2 ok2' ok1
      obtain ⟨F', d1, d2, d3⟩ := ((hL.ext x1).ext x2).done
      go_wp2
      go_ret
      exact ⟨_, F', rfl, by rw [D.out]; exact d1, ⟨d2, d3⟩, (by repeat (first | with_reducible exact Ext.refl _ | with_reducible assumption | with_reducible refine Ext.drew ?_ | with_reducible refine Ext.alloc ?_ _ | (refine Ext.setCell ?_ (by simp) _) | with_reducible refine Ext.trans ?_ (by with_reducible assumption)))⟩
  · have ok1' : areEnts old = false := by simpa using ok1
    rw [ok1']
    have D := hid (desc_no (old := old) (now := now) fun h9 => ok1 h9.1)
    clear ok1 ok1'
    obtain ⟨F', d1, d2, d3⟩ := (hL.ext x1).done
    go_wp2
    go_ret
    exact ⟨_, F', rfl, by rw [D.out]; exact d1, ⟨d2, d3⟩, (by repeat (first | with_reducible exact Ext.refl _ | with_reducible assumption | with_reducible refine Ext.drew ?_ | with_reducible refine Ext.alloc ?_ _ | (refine Ext.setCell ?_ (by simp) _) | with_reducible refine Ext.trans ?_ (by with_reducible assumption)))⟩
end Go.Proofs.Ytfcbapaojoecgab
