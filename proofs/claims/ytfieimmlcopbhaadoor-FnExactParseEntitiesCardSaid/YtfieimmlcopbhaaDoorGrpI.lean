/-
  WALK: AreGroups (the program).
-/
import Derived.Test.YtfieimmlcopbhaaDoorGrp
namespace Go.Proofs.YtfieimmlcopbhaaDoor
open Go.RowKit

theorem goS_long (g : List (List Int)) : ∀ (all : List Int), 8 < all.length → goS all g = false := by
  induction g with
  | nil => intro all h; simp [goS]; omega
  | cons x g ih => intro all h; rw [goS, ih _ (by rw [List.length_append]; omega), Bool.and_false]

set_option maxHeartbeats 400000 in
set_option maxRecDepth 20000 in
theorem impl_AreGroups (v : Value) (g : List (List Int)) (w : World) (h : Sl (slR intR) w v g) (hb : sumLen g ≤ 1099511627776) :
    Calls Tryd.prog 104 #[v] w fun e w2 => e = .returned (.bool (areGroups g)) ∧ Ext w w2 := by
  obtain ⟨A, cap, rfl, hm⟩ := h.form
  go_enter Tryd.func104, Tryd.ntmps104
  go_wp2
  go_loopw [3, 10] (fun t i wr => ∃ (k : Nat) (all : List Int), k ≤ g.length ∧ i = .int .i64 k ∧ Bld intO wr w.heap.size 3 t all [] ∧ areGroups g = goS all (g.drop k) ∧ all.length = sumLen (g.take k) ∧ all.length ≤ 8 ∧ Ext w wr) (fun _ i _ => g.length - (intOf i).toNat)
  case atStart => exact ⟨0, [], Nat.zero_le _, rfl, Bld.nil w _ _, rfl, rfl, Nat.zero_le _, Ext.refl _⟩
  case round =>
    obtain ⟨k, all, hk, rfl, hB, hgo, hlen, h8, hx⟩ := hrel
    have HG := hid hgo
    have HL := hid hlen
    clear hgo hlen
    have hsa := hB.sl
    by_cases hlt : k < g.length
    · obtain ⟨b1, off1, A1, cap1, rfl, hs1, hc1⟩ := (h.mono hx).sl hlt
      have HST := hid (goS_step all g k hlt)
      have hl63 : g[k].length ≤ 9223372036854775807 := by
        obtain ⟨_, _, _, h9⟩ := hs1.form
        exact h9
      go_wp2
      go_loop [16] (fun i => ∃ j : Nat, j ≤ g[k].length ∧ i = .int .i64 j ∧ ∀ q, q < j → grpAt all g[k] q = true) (fun i => g[k].length - (intOf i).toNat)
      case atStart => exact ⟨0, Nat.zero_le _, rfl, fun q hq => absurd hq (Nat.not_lt_zero _)⟩
      case round =>
        obtain ⟨j, hj, rfl, hz⟩ := hrel
        have HZ := hid hz
        clear hz
        by_cases hjl : j < g[k].length
        · obtain ⟨b2, off2, rfl, hi2, hc3⟩ := hs1.int hjl
          cases hin : inB g[k][j] 1 399 with
          | false =>
            go_wp2_with (go_at_call 96; refine (impl_isMember _ _).mono ?_; rintro e w2 ⟨rfl, rfl⟩; rw [hin])
            go_ret
            exact ⟨ret_bool (grp_no HG.out HST.out hjl (by rw [grpAt_eq hjl]; rw [hin]; rfl)).symm, hx⟩
          | true =>
            have HI := hid hin
            by_cases hj0 : 0 < j
            · have hjl1 : j - 1 < g[k].length := by omega
              obtain ⟨b3, off3, e3, hi3, hc4⟩ := hs1.int hjl1
              cases e3
              have hsub : ((j - 1 : Nat) : Int) = (j : Int) - 1 := by omega
              have hgd : g[k].getD (j - 1) 0 = g[k][j - 1] := getD_at hjl1
              have HGD := hid hgd
              clear hgd
              by_cases hge : g[k][j] ≤ g[k][j - 1]
              · have hge2 : decide (g[k][j - 1] < g[k][j]) = false := by simpa using hge
                have HGE := hid hge2
                clear hge2
                go_wp2_with (go_at_call 96; refine (impl_isMember _ _).mono ?_; rintro e w2 ⟨rfl, rfl⟩; rw [hin])
                go_ret
                exact ⟨ret_bool (grp_no HG.out HST.out hjl (by rw [grpAt_eq hjl]; rw [HGD.out, HGE.out, show (j == 0) = false by simp; omega]; simp)).symm, hx⟩
              · have hge2 : decide (g[k][j - 1] < g[k][j]) = true := by simpa using hge
                have hge3 : decide (g[k][j] ≤ g[k][j - 1]) = false := by simpa using hge
                have HGE := hid hge2
                clear hge2 hge
                cases hh : hasI g[k][j] all with
                | true =>
                  go_wp2_with (first | (go_at_call 96; refine (impl_isMember _ _).mono ?_; rintro e w2 ⟨rfl, rfl⟩; rw [hin]) | (go_at_call 127; refine (slices_Contains _ all _ _ hsa).mono ?_; rintro e w2 ⟨rfl, rfl⟩; rw [hh]))
                  go_ret
                  exact ⟨ret_bool (grp_no HG.out HST.out hjl (by rw [grpAt_eq hjl]; rw [hh]; simp)).symm, hx⟩
                | false =>
                  have HH := hid hh
                  go_wp2_with (first | (go_at_call 96; refine (impl_isMember _ _).mono ?_; rintro e w2 ⟨rfl, rfl⟩; rw [hin]) | (go_at_call 127; refine (slices_Contains _ all _ _ hsa).mono ?_; rintro e w2 ⟨rfl, rfl⟩; rw [hh]))
                  go_round
                  case rel => exact ⟨j + 1, by omega, by go_num, lt_succ_all HZ.out (by rw [grpAt_eq hjl]; rw [HH.out, HI.out, HGD.out, HGE.out, Bool.or_true]; rfl)⟩
                  case measure => simp [intOf]; omega
            · have hjd1 : decide (0 < j) = false := by simpa using hj0
              have hjd2 : decide ((0 : Int) < (j : Int)) = false := by simp; omega
              have HJ0 := hid (show (j == 0) = true by simp; omega)
              clear hj0
              cases hh : hasI g[k][j] all with
              | true =>
                go_wp2_with (first | (go_at_call 96; refine (impl_isMember _ _).mono ?_; rintro e w2 ⟨rfl, rfl⟩; rw [hin]) | (go_at_call 127; refine (slices_Contains _ all _ _ hsa).mono ?_; rintro e w2 ⟨rfl, rfl⟩; rw [hh]))
                go_ret
                exact ⟨ret_bool (grp_no HG.out HST.out hjl (by rw [grpAt_eq hjl]; rw [hh]; simp)).symm, hx⟩
              | false =>
                have HH := hid hh
                go_wp2_with (first | (go_at_call 96; refine (impl_isMember _ _).mono ?_; rintro e w2 ⟨rfl, rfl⟩; rw [hin]) | (go_at_call 127; refine (slices_Contains _ all _ _ hsa).mono ?_; rintro e w2 ⟨rfl, rfl⟩; rw [hh]))
                go_round
                case rel => exact ⟨j + 1, by omega, by go_num, lt_succ_all HZ.out (by rw [grpAt_eq hjl]; rw [HH.out, HI.out, HJ0.out]; rfl)⟩
                case measure => simp [intOf]; omega
        · have hat := sumLen_at g k hlt
          have hlb : all.length + g[k].length ≤ 1099511627776 := by have := HL.out; omega
          have hok : grpOk all g[k] = true := grpOk_true fun q hq => HZ.out q (by omega)
          have HOK := hid hok
          have HLS := hid (sumLen_take g k hlt)
          clear hat hok
          obtain ⟨n9, hn9⟩ : ∃ n9, n9 = (all ++ g[k]).length := ⟨_, rfl⟩
          have hn9b : n9 ≤ 1099511627776 := by rw [hn9, List.length_append]; exact hlb
          have HN9 := hid hn9
          clear hn9
          by_cases hne : g[k].length = 0
          · have hne2 : ((g[k].length : Int) == 0) = true := by simp [hne]
            have HNE := hid hne
            clear hne
            go_wp2_with (at_builtin; refine wpList_appn elemInt rfl _ _ rfl hB rfl rfl hs1 hlb hx.size ?_; intro v2 w2 hB3 hE3)
            go_ret
            exact ⟨ret_bool (by rw [HG.out, HST.out, show (g[k].length == 0) = true by simp [HNE.out]]; simp), hE3 w (Nat.le_refl _) hx⟩
          · have hne2 : ((g[k].length : Int) == 0) = false := by simp; intro e; exact hne (by rw [e]; rfl)
            have HNE := hid hne
            clear hne
            by_cases h9 : 8 < n9
            · go_wp2_with (at_builtin; refine wpList_appn elemInt rfl _ _ rfl hB rfl rfl hs1 hlb hx.size ?_; intro v2 w2 hB3 hE3; obtain ⟨A9, cap9, e9, h99⟩ := hB3.sl.form; rw [← HN9.out] at e9; subst e9)
              go_ret
              exact ⟨ret_bool (by rw [HG.out, HST.out, goS_long _ _ (HN9.out ▸ h9), Bool.and_false]), hE3 w (Nat.le_refl _) hx⟩
            · go_wp2_with (at_builtin; refine wpList_appn elemInt rfl _ _ rfl hB rfl rfl hs1 hlb hx.size ?_; intro v2 w2 hB3 hE3; obtain ⟨A9, cap9, e9, h99⟩ := hB3.sl.form; rw [← HN9.out] at e9; subst e9)
              go_roundw
              case rel => exact ⟨k + 1, all ++ g[k], by omega, by go_num, hB3, by rw [HG.out, HST.out, HOK.out, show (g[k].length == 0) = false by simpa using HNE.out]; rfl, by rw [List.length_append, HLS.out, HL.out], by rw [← HN9.out]; omega, hE3 w (Nat.le_refl _) hx⟩
              case measure => simp [intOf]; omega
    · have hgo := HG.out
      rw [List.drop_of_length_le (by omega), goS] at hgo
      have HG2 := hid hgo
      clear hgo
      go_wp2
      go_ret
      exact ⟨ret_bool (by rw [HG2.out]; exact (decide_eq_true h8).symm), hx⟩
end Go.Proofs.YtfieimmlcopbhaaDoor
