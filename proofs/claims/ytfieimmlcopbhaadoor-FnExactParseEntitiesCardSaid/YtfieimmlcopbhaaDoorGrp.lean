/-
  PLAIN LAW AND WALK: AreGroups (the reference).
-/
import Derived.Test.YtfieimmlcopbhaaDoorAsg
import Derived.Test.YtfieimmlcopbhaaDoorAppN
import Derived.Test.YtfieimmlcopbhaaDoorMem
namespace Go.Proofs.YtfieimmlcopbhaaDoor
open Go.RowKit

def grpAt (all grp : List Int) (k : Nat) : Bool := inB (grp.getD k 0) 1 399 && (k == 0 || decide (grp.getD (k - 1) 0 < grp.getD k 0)) && !hasI (grp.getD k 0) all
def grpOk (all grp : List Int) : Bool := (List.range grp.length).all (grpAt all grp)
def goS : List Int → List (List Int) → Bool
  | all, [] => decide (all.length ≤ 8)
  | all, g :: gs => grpOk all g && !(g.length == 0) && goS (all ++ g) gs
def areGroups (g : List (List Int)) : Bool := goS [] g
theorem grpOk_false {all grp : List Int} {k : Nat} (hk : k < grp.length) (h : grpAt all grp k = false) : grpOk all grp = false :=
  List.all_eq_false.2 ⟨k, List.mem_range.2 hk, by simp [h]⟩
theorem grpOk_true {all grp : List Int} (h : ∀ j, j < grp.length → grpAt all grp j = true) : grpOk all grp = true := List.all_eq_true.2 fun j hj => h j (List.mem_range.1 hj)
theorem goS_step (all : List Int) (g : List (List Int)) (k : Nat) (h : k < g.length) : goS all (g.drop k) = (grpOk all g[k] && !(g[k].length == 0) && goS (all ++ g[k]) (g.drop (k + 1))) := by
  rw [List.drop_eq_getElem_cons h, goS]
theorem grpAt_eq {all grp : List Int} {k : Nat} (h : k < grp.length) : grpAt all grp k = (inB grp[k] 1 399 && (k == 0 || decide (grp.getD (k - 1) 0 < grp[k])) && !hasI grp[k] all) := by
  unfold grpAt; rw [getD_at h]

theorem grp_no {g : List (List Int)} {all : List Int} {k j : Nat} {hk : k < g.length} (hg : areGroups g = goS all (g.drop k)) (hs : goS all (g.drop k) = (grpOk all g[k] && !(g[k].length == 0) && goS (all ++ g[k]) (g.drop (k + 1)))) (hj : j < g[k].length) (h : grpAt all g[k] j = false) : areGroups g = false := by
  rw [hg, hs, grpOk_false hj h]; rfl

set_option maxHeartbeats 400000 in
set_option maxRecDepth 20000 in
theorem spec_AreGroups (v : Value) (g : List (List Int)) (w : World) (h : Sl (slR intR) w v g) (hb : sumLen g ≤ 1099511627776) :
    Calls Tryd.prog 97 #[v] w fun e w2 => e = .returned (.bool (areGroups g)) ∧ Ext w w2 := by
  obtain ⟨A, cap, rfl, hm⟩ := h.form
  go_enter Tryd.func97, Tryd.ntmps97
  go_wp2
  go_loopw [3, 4] (fun t i wr => ∃ (k : Nat) (all : List Int), k ≤ g.length ∧ i = .int .i64 k ∧ Bld intO wr w.heap.size 3 t all [] ∧ areGroups g = goS all (g.drop k) ∧ all.length = sumLen (g.take k) ∧ Ext w wr) (fun _ i _ => g.length - (intOf i).toNat)
  case atStart => exact ⟨0, [], Nat.zero_le _, rfl, Bld.lit w (Nat.le_refl _) _, rfl, rfl, (Ext.refl _).alloc _⟩
  case round =>
    obtain ⟨k, all, hk, rfl, hB, hgo, hlen, hx⟩ := hrel
    have HG := hid hgo
    have HL := hid hlen
    clear hgo hlen
    have hsa := hB.sl
    by_cases hlt : k < g.length
    · obtain ⟨b1, off1, A1, cap1, rfl, hs1, hc1⟩ := (h.mono hx).sl hlt
      have HST := hid (goS_step all g k hlt)
      have hl63 : g[k].length ≤ 9223372036854775807 := by
        obtain ⟨_, _, _, h9⟩ := hs1.form
        exact h9
      go_wp2
      obtain ⟨wo, hwo⟩ : ∃ wo : World, wo = wr := ⟨_, rfl⟩
      go_loopw [5] (fun i w3 => ∃ j : Nat, j ≤ g[k].length ∧ i = .int .i64 j ∧ (∀ q, q < j → grpAt all g[k] q = true) ∧ Ext wo w3) (fun i _ => g[k].length - (intOf i).toNat)
      case atStart => exact ⟨0, Nat.zero_le _, rfl, fun q hq => absurd hq (Nat.not_lt_zero _), Ext.of_eq hwo⟩
      case round =>
        obtain ⟨j, hj, rfl, hz, hx3⟩ := hrel
        rw [← hwo] at hB hx hs1 hc1 hsa
        clear hwo
        have HZ := hid hz
        clear hz
        have hc2 := hx3.cell hc1
        by_cases hjl : j < g[k].length
        · obtain ⟨b2, off2, rfl, hi2, hc30⟩ := hs1.int hjl
          have hc3 := hx3.cell hc30
          have hcz1 : ∀ z : ExtOf wr, z.1.cell? ⟨b1, off1 + k, none⟩ = _ := fun z => z.2.cell hc2
          have hcz2 : ∀ z : ExtOf wr, z.1.cell? ⟨b2, off2 + j, none⟩ = _ := fun z => z.2.cell hc3
          have hbd := idxI_bd g[k][j] all
          have hnn := hid (idxI_nn g[k][j] all)
          cases hin : inB g[k][j] 1 399 with
          | false =>
            go_wp2_with fail
            refine wp_region_ext (by kernel_rfl) (by kernel_rfl) ?_
            repeat (go_big_quiet_step ((first | (go_at_call 29; exact quiet_same (Calls.mono (spec_l1In _ _ _ _) fun _ _ h9 => ⟨h9.1.trans (ret_bool hin), h9.2⟩)))))
            refine wpQuiet_nil ?_
            rintro w4 ⟨⟨_, x4⟩, rfl⟩
            go_wp2
            go_ret
            exact ⟨ret_bool (grp_no HG.out HST.out hjl (by rw [grpAt_eq hjl]; rw [hin]; rfl)).symm, (hx.trans hx3).trans x4⟩
          | true =>
            have HI := hid hin
            by_cases hj0 : 0 < j
            · have hjl1 : j - 1 < g[k].length := by omega
              obtain ⟨b3, off3, e3, hi3, hc40⟩ := hs1.int hjl1
              cases e3
              have hc4 := hx3.cell hc40
              have hsub : ((j - 1 : Nat) : Int) = (j : Int) - 1 := by omega
              have hcz3 : ∀ z : ExtOf wr, z.1.cell? ⟨b2, off2 + (j - 1), none⟩ = _ := fun z => z.2.cell hc4
              have hgd : g[k].getD (j - 1) 0 = g[k][j - 1] := getD_at hjl1
              have HGD := hid hgd
              clear hgd
              by_cases hge : g[k][j] ≤ g[k][j - 1]
              · have hge2 : decide (g[k][j - 1] < g[k][j]) = false := by simpa using hge
                have HGE := hid hge2
                clear hge2
                go_wp2_with fail
                refine wp_region_ext (by kernel_rfl) (by kernel_rfl) ?_
                repeat (go_big_quiet_step ((first | (go_at_call 29; exact quiet_same (Calls.mono (spec_l1In _ _ _ _) fun _ _ h9 => ⟨h9.1.trans (ret_bool hin), h9.2⟩)))))
                refine wpQuiet_nil ?_
                rintro w4 ⟨⟨_, x4⟩, rfl⟩
                go_wp2
                go_ret
                exact ⟨ret_bool (grp_no HG.out HST.out hjl (by rw [grpAt_eq hjl]; rw [HGD.out, HGE.out, show (j == 0) = false by simp; omega]; simp)).symm, (hx.trans hx3).trans x4⟩
              · have hge2 : decide (g[k][j - 1] < g[k][j]) = true := by simpa using hge
                have hge3 : decide (g[k][j] ≤ g[k][j - 1]) = false := by simpa using hge
                have HGE := hid hge2
                clear hge2 hge
                by_cases hh : hasI g[k][j] all = true
                · have h0 : 0 ≤ idxI g[k][j] all := by have := hnn.out; rw [hh] at this; simpa using this
                  have HH := hid hh
                  clear hh
                  go_wp2_with fail
                  refine wp_region_ext (by kernel_rfl) (by kernel_rfl) ?_
                  repeat (go_big_quiet_step ((first | (go_at_call 29; exact quiet_same (Calls.mono (spec_l1In _ _ _ _) fun _ _ h9 => ⟨h9.1.trans (ret_bool hin), h9.2⟩)) | (go_at_call 118; exact quiet_same (spec_l24Find _ all _ _ (hsa.mono (hx3.trans (Subtype.property _))))))))
                  refine wpQuiet_nil ?_
                  rintro w4 ⟨⟨_, x4⟩, rfl⟩
                  go_wp2
                  go_ret
                  exact ⟨ret_bool (grp_no HG.out HST.out hjl (by rw [grpAt_eq hjl]; rw [HH.out]; simp)).symm, (hx.trans hx3).trans x4⟩
                · have hh2 : hasI g[k][j] all = false := by simpa using hh
                  have h0 : idxI g[k][j] all < 0 := by have := hnn.out; rw [hh2] at this; simpa using this
                  have HH := hid hh2
                  clear hh hh2
                  go_wp2_with fail
                  refine wp_region_ext (by kernel_rfl) (by kernel_rfl) ?_
                  repeat (go_big_quiet_step ((first | (go_at_call 29; exact quiet_same (Calls.mono (spec_l1In _ _ _ _) fun _ _ h9 => ⟨h9.1.trans (ret_bool hin), h9.2⟩)) | (go_at_call 118; exact quiet_same (spec_l24Find _ all _ _ (hsa.mono (hx3.trans (Subtype.property _))))))))
                  refine wpQuiet_nil ?_
                  rintro w4 ⟨⟨_, x4⟩, rfl⟩
                  go_wp2
                  go_roundw
                  case rel => exact ⟨j + 1, by omega, by go_num, lt_succ_all HZ.out (by rw [grpAt_eq hjl]; rw [HH.out, HI.out, HGD.out, HGE.out, Bool.or_true]; rfl), hx3.trans x4⟩
                  case measure => simp [intOf]; omega
            · have hjd1 : decide (0 < j) = false := by simpa using hj0
              have hjd2 : decide ((0 : Int) < (j : Int)) = false := by simp; omega
              have HJ0 := hid (show (j == 0) = true by simp; omega)
              clear hj0
              by_cases hh : hasI g[k][j] all = true
              · have h0 : 0 ≤ idxI g[k][j] all := by have := hnn.out; rw [hh] at this; simpa using this
                have HH := hid hh
                clear hh
                go_wp2_with fail
                refine wp_region_ext (by kernel_rfl) (by kernel_rfl) ?_
                repeat (go_big_quiet_step ((first | (go_at_call 29; exact quiet_same (Calls.mono (spec_l1In _ _ _ _) fun _ _ h9 => ⟨h9.1.trans (ret_bool hin), h9.2⟩)) | (go_at_call 118; exact quiet_same (spec_l24Find _ all _ _ (hsa.mono (hx3.trans (Subtype.property _))))))))
                refine wpQuiet_nil ?_
                rintro w4 ⟨⟨_, x4⟩, rfl⟩
                go_wp2
                go_ret
                exact ⟨ret_bool (grp_no HG.out HST.out hjl (by rw [grpAt_eq hjl]; rw [HH.out]; simp)).symm, (hx.trans hx3).trans x4⟩
              · have hh2 : hasI g[k][j] all = false := by simpa using hh
                have h0 : idxI g[k][j] all < 0 := by have := hnn.out; rw [hh2] at this; simpa using this
                have HH := hid hh2
                clear hh hh2
                go_wp2_with fail
                refine wp_region_ext (by kernel_rfl) (by kernel_rfl) ?_
                repeat (go_big_quiet_step ((first | (go_at_call 29; exact quiet_same (Calls.mono (spec_l1In _ _ _ _) fun _ _ h9 => ⟨h9.1.trans (ret_bool hin), h9.2⟩)) | (go_at_call 118; exact quiet_same (spec_l24Find _ all _ _ (hsa.mono (hx3.trans (Subtype.property _))))))))
                refine wpQuiet_nil ?_
                rintro w4 ⟨⟨_, x4⟩, rfl⟩
                go_wp2
                go_roundw
                case rel => exact ⟨j + 1, by omega, by go_num, lt_succ_all HZ.out (by rw [grpAt_eq hjl]; rw [HH.out, HI.out, HJ0.out]; rfl), hx3.trans x4⟩
                case measure => simp [intOf]; omega
        · by_cases hne : g[k].length = 0
          · have hne2 : ((g[k].length : Int) == 0) = true := by simp [hne]
            have HNE := hid hne
            clear hne
            go_wp2
            go_ret
            exact ⟨ret_bool (by rw [HG.out, HST.out, show (g[k].length == 0) = true by simp [HNE.out]]; simp), hx.trans hx3⟩
          · have hne2 : ((g[k].length : Int) == 0) = false := by simp; intro e; exact hne (by rw [e]; rfl)
            have HNE := hid hne
            have hat := sumLen_at g k hlt
            have hlb : all.length + g[k].length ≤ 1099511627776 := by have := HL.out; omega
            have hok : grpOk all g[k] = true := grpOk_true fun q hq => HZ.out q (by omega)
            have HOK := hid hok
            have HLS := hid (sumLen_take g k hlt)
            clear hne hat hok
            have hBx := hB.ext hx3
            have hsx := hs1.mono hx3
            go_wp2_with (at_builtin; refine wpList_appn elemInt rfl _ _ rfl hBx rfl rfl hsx hlb (Nat.le_trans hx.size hx3.size) ?_; intro v2 w2 hB3 hE3)
            go_roundw
            case rel => exact ⟨k + 1, all ++ g[k], by omega, by go_num, hB3, by rw [HG.out, HST.out, HOK.out, show (g[k].length == 0) = false by simpa using HNE.out]; rfl, by rw [List.length_append, HLS.out, HL.out], hE3 w (Nat.le_refl _) (hx.trans hx3)⟩
            case measure => simp [intOf]; omega
    · obtain ⟨A9, cap9, e9, _⟩ := hsa.form
      subst e9
      have hgo := HG.out
      rw [List.drop_of_length_le (by omega), goS] at hgo
      have HG2 := hid hgo
      clear hgo
      go_wp2
      go_ret
      exact ⟨ret_bool (by rw [HG2.out]; exact decide_eq_decide.2 (by omega)), hx⟩
end Go.Proofs.YtfieimmlcopbhaaDoor
