/-
  PLAIN LAW AND WALK: BestAssignment (the reference).
-/
import Derived.Test.YtenfgmpndpgbhaaTabS
import Derived.Test.YtenfgmpndpgbhaaAppI
namespace Go.Proofs.Ytenfgmpndpgbhaa
open Go.RowKit

/-- the first of the numbers j, .., j + c - 1 that meets p -/
def ff (p : Nat → Bool) : Nat → Nat → Int
  | _, 0 => -1
  | j, c + 1 => if p j then (j : Int) else ff p (j + 1) c
theorem ff_bd (p : Nat → Bool) : ∀ (c j : Nat), -1 ≤ ff p j c ∧ ff p j c < (j + c : Nat)
  | 0, j => by simp only [ff]; omega
  | c + 1, j => by
    have := ff_bd p c (j + 1)
    simp only [ff]
    split <;> omega
def pickP (r : List Int) (next : Nat → Int) (cur : Int) (t k : Nat) : Bool := decide (0 < r.getD k 0) && !t.testBit k && decide (r.getD k 0 + next (t ||| 1 <<< k) = cur)
def pickOf (r : List Int) (rs : List (List Int)) (t : Nat) : Int := ff (pickP r (bv rs) (bv (r :: rs) t) t) 0 r.length
def takeBit (t : Nat) (c : Int) : Nat := if 0 ≤ c then t ||| 1 <<< c.toNat else t
def asgFrom : List (List Int) → Nat → List Int
  | [], _ => []
  | r :: rs, t => pickOf r rs t :: asgFrom rs (takeBit t (pickOf r rs t))
def bestAsg (m : List (List Int)) : List Int := if okMat m then asgFrom m 0 else []
theorem asgFrom_len : ∀ (m : List (List Int)) (t : Nat), (asgFrom m t).length = m.length
  | [], _ => rfl
  | r :: rs, t => by simp only [asgFrom, List.length_cons, asgFrom_len rs]
theorem takeBit_lt {t n : Nat} {c : Int} (ht : t < 2 ^ n) (hc : c < n) : takeBit t c < 2 ^ n := by
  unfold takeBit
  split
  · exact bit_set_lt ht (by omega)
  · exact ht
theorem bv_cons (m : List (List Int)) (k : Nat) (h : k < m.length) (t : Nat) : bv (m.drop k) t = bv (m[k] :: m.drop (k + 1)) t := by rw [List.drop_eq_getElem_cons h]

set_option maxHeartbeats 400000 in
set_option maxRecDepth 20000 in
theorem spec_BestAssignment (v : Value) (m : List (List Int)) (w : World) (h : Sl (slR intR) w v m) :
    Calls Try.prog 32 #[v] w fun e w2 => ∃ v2 F, e = .returned v2 ∧ OwnSl intO w2 v2 (bestAsg m) F ∧ NewF w F ∧ Ext w w2 := by
  obtain ⟨A, cap, rfl, hm⟩ := h.form
  have x0 : Ext w (w.alloc (.cells #[] 3)) := (Ext.refl _).alloc _
  by_cases hok : okMat m = true
  · have hb : bestAsg m = asgFrom m 0 := by unfold bestAsg; rw [if_pos hok]
    rw [hb]
    clear hb
    have hm8 := okMat_len hok
    have HM := hid hok
    go_enter Try.func32, Try.ntmps32
    go_wp2_with fail
    refine (spec_IsOverlapMatrix _ m _ (h.mono x0)).mono ?_
    rintro e w1 ⟨rfl, x1⟩
    rw [hok]
    go_wp2_with fail
    refine (spec_l25Table _ m _ (h.mono (x0.trans x1)) hok).mono ?_
    rintro e w2 ⟨g, off, cap2, f, F, rfl, hT, hf, hNF, x2⟩
    clear hok
    obtain ⟨N, hN⟩ : ∃ N, N = 2 ^ width m := ⟨_, rfl⟩
    rw [← hN] at hT hf
    have HN := hid hN
    have HF := hid hf
    clear hN hf
    go_wp2
    go_loopw [3, 5, 6] (fun out t i wr => ∃ (k s : Nat) (done : List Int), k ≤ m.length ∧ i = .int .i64 k ∧ t = .int .i64 s ∧ s < N ∧ asgFrom m 0 = done ++ asgFrom (m.drop k) s ∧ done.length = k ∧ Bld intO wr w.heap.size 3 out done [] ∧ Ext w wr ∧ OwnSl (slO intO) wr (.slice (some ⟨g, off, none⟩) (m.length + 1) cap2) (tab (m.length + 1) N f) F ∧ ∀ b ∈ F, out.ownBlock ≠ some b) (fun _ _ i _ => m.length - (intOf i).toNat)
    case atStart => exact ⟨0, 0, [], Nat.zero_le _, rfl, rfl, by rw [HN.out]; exact Nat.pow_pos (by decide), rfl, rfl, ((Bld.lit w (Nat.le_refl _) _).ext (x1.trans x2)), (x0.trans x1).trans x2, hT, fun b hb e => by injection e with e; have e : w.heap.size = b := e; have := hNF.2 b hb; have := x1.size; simp only [World.size_alloc] at this; omega⟩
    case round =>
      obtain ⟨k, s, done, hk, rfl, rfl, hs, hd, hdl, hB, hx, hT, hoF⟩ := hrel
      have HD := hid hd
      have HDL := hid hdl
      clear hd hdl
      by_cases hlt : k < m.length
      · obtain ⟨b1, off1, A1, cap1, e1, hs1, hc10⟩ := h.sl hlt
        cases e1
        have hc1 := hx.cell hc10
        have HB := hid (okMat_at HM.out hlt)
        have hlk8 : m[k].length ≤ 8 := HB.out.2.1
        have hsb := bv_bd (m.drop k) s (fun r hr => (okMat_mem HM.out (List.mem_of_mem_drop hr)))
        have hcur : f k s = bv (m[k] :: m.drop (k + 1)) s := by rw [HF.out k (by omega) s hs, bv_cons m k hlt]
        obtain ⟨P, hP⟩ : ∃ P, P = pickP m[k] (bv (m.drop (k + 1))) (bv (m[k] :: m.drop (k + 1)) s) s := ⟨_, rfl⟩
        have HP := hid hP
        have HCU := hid hcur
        clear hP hcur
        go_wp2
        clear hc1
        obtain ⟨wo, hwo⟩ : ∃ wo : World, wo = wr := ⟨_, rfl⟩
        go_loopw [7, 8] (fun p i w3 => ∃ q : Nat, q ≤ m[k].length ∧ i = .int .i64 ((q : Int) - 1) ∧ p = .int .i64 (ff P q (m[k].length - q)) ∧ Ext wo w3) (fun _ i _ => (intOf i + 1).toNat)
        case atStart => exact ⟨m[k].length, Nat.le_refl _, rfl, by rw [Nat.sub_self]; rfl, Ext.of_eq hwo⟩
        case round =>
          obtain ⟨q, hq, rfl, rfl, hx3⟩ := hrel
          rw [← hwo] at hB hx hT
          clear hwo
          cases q with
          | zero =>
            have hbd := ff_bd P m[k].length 0
            have hpk : pickOf m[k] (m.drop (k + 1)) s = ff P 0 m[k].length := by rw [HP.out]; rfl
            have hdr : asgFrom (m.drop k) s = pickOf m[k] (m.drop (k + 1)) s :: asgFrom (m.drop (k + 1)) (takeBit s (pickOf m[k] (m.drop (k + 1)) s)) := by rw [List.drop_eq_getElem_cons hlt, asgFrom]
            rw [hpk] at hdr
            rw [Nat.sub_zero]
            have hwl : m[k].length = width m := HB.out.1
            rw [Nat.zero_add] at hbd
            have HWL := hid hwl
            obtain ⟨c, hc⟩ : ∃ c, c = ff P 0 m[k].length := ⟨_, rfl⟩
            rw [← hc] at hbd hdr ⊢
            have htb := takeBit_lt (t := s) (n := width m) (c := c) (by rw [← HN.out]; exact hs) (by omega)
            rw [← HN.out] at htb
            have HTB := hid htb
            have HDR := hid hdr
            have hI : I64 c := by unfold I64; omega
            clear hc hdr hpk htb hwl
            have hBx := hB.ext hx3
            have hT3 := hT.ext hx3
            have hdn : done.length ≤ 8 := by have := HDL.out; omega
            have hN8 : N ≤ 256 := by rw [HN.out]; exact Nat.le_trans (Nat.pow_le_pow_right (by decide) (show width m ≤ 8 by rw [← HWL.out]; exact HB.out.2.1)) (by decide)
            by_cases hc0 : 0 ≤ c
            · obtain ⟨q, rfl⟩ : ∃ q : Nat, c = (q : Int) := ⟨c.toNat, by omega⟩
              have hor := bit_setw (s := s) (c := q) (by omega) (by omega)
              have htk : takeBit s (q : Int) = s ||| 1 <<< q := by unfold takeBit; rw [if_pos (by omega)]; rfl
              rw [← htk] at hor
              have HTK := hid htk
              clear htk
              go_wp2_with (at_builtin; refine wpList_app1k elemInt (by decide) rfl _ _ rfl hBx rfl wr.heap.size 1 rfl rfl (one_int _) (own_int _ _ hI) fresh_nil (by omega) (by decide) (Nat.le_trans hx.size hx3.size) ?_; intro v2 w4 hB3 hE3 hK3)
              go_roundw
              case rel => exact ⟨k + 1, takeBit s q, done ++ [(q : Int)], by omega, by go_num, by first | rfl | (rw [← hor]), HTB.out, by rw [HD.out, HDR.out, List.append_assoc]; rfl, by rw [List.length_append, HDL.out]; rfl, hB3, hE3 w (Nat.le_refl _) (hx.trans hx3), hT3.keep (hK3 F hT3.lt hoF).1, (hK3 F hT3.lt hoF).2⟩
              case measure => simp [intOf]; omega
            · have htk : takeBit s c = s := by unfold takeBit; rw [if_neg hc0]
              have HTK := hid htk
              clear htk
              go_wp2_with (at_builtin; refine wpList_app1k elemInt (by decide) rfl _ _ rfl hBx rfl wr.heap.size 1 rfl rfl (one_int _) (own_int _ _ hI) fresh_nil (by omega) (by decide) (Nat.le_trans hx.size hx3.size) ?_; intro v2 w4 hB3 hE3 hK3)
              go_roundw
              case rel => exact ⟨k + 1, s, done ++ [c], by omega, by go_num, rfl, hs, by rw [HD.out, HDR.out, HTK.out, List.append_assoc]; rfl, by rw [List.length_append, HDL.out]; rfl, hB3, hE3 w (Nat.le_refl _) (hx.trans hx3), hT3.keep (hK3 F hT3.lt hoF).1, (hK3 F hT3.lt hoF).2⟩
              case measure => simp [intOf]; omega
          | succ j =>
            have hj1 : ((j + 1 : Nat) : Int) - 1 = (j : Int) := by omega
            rw [hj1]
            clear hj1
            have hjl : j < m[k].length := by omega
            have hjw : j < width m := by rw [← HB.out.1]; exact hjl
            have hj8 : j < 8 := by have := HB.out.2.1; omega
            have hN8 : N ≤ 256 := by rw [HN.out]; exact Nat.le_trans (Nat.pow_le_pow_right (by decide) (show width m ≤ 8 by rw [← HB.out.1]; exact HB.out.2.1)) (by decide)
            obtain ⟨b2, off2, rfl, hi2, hc20⟩ := hs1.int hjl
            have hc1 := (hx.trans hx3).cell hc10
            have hc2 := (hx.trans hx3).cell hc20
            have hcz1 : ∀ z : ExtOf wr, z.1.cell? ⟨b1, _, none⟩ = _ := fun z => z.2.cell hc1
            have hcz2 : ∀ z : ExtOf wr, z.1.cell? ⟨b2, off2 + j, none⟩ = _ := fun z => z.2.cell hc2
            have hbt := bit_test (s := s) (c := j) (by omega)
            have hvb := HB.out.2.2 _ (List.getElem_mem hjl)
            have hls : s ||| 1 <<< j < N := by rw [HN.out]; exact bit_set_lt (by rw [← HN.out]; exact hs) hjw
            have hor := bit_setw (s := s) (c := j) (by omega) (by omega)
            have hpj : P j = (decide (0 < m[k][j]) && !s.testBit j && decide (m[k][j] + f (k + 1) (s ||| 1 <<< j) = f k s)) := by
              rw [HP.out, HCU.out, HF.out (k + 1) (by omega) _ hls, pickP, getD_at hjl]
            have hff : ff P j (m[k].length - j) = if P j then (j : Int) else ff P (j + 1) (m[k].length - (j + 1)) := by
              rw [show m[k].length - j = (m[k].length - (j + 1)) + 1 by omega, ff]
            obtain ⟨t, ht⟩ : ∃ t, t = s ||| 1 <<< j := ⟨_, rfl⟩
            rw [← ht] at hls hor hpj
            obtain ⟨b3, o3, c3, hc3, _, _, hc4, _, _⟩ := tab_at (hT.ext hx3) hNF.1 (show k + 1 < m.length + 1 by omega) hls
            obtain ⟨b4, o4, c4, hc5, _, _, hc6, _, _⟩ := tab_at (hT.ext hx3) hNF.1 (show k < m.length + 1 by omega) hs
            have hcz3 : ∀ z : ExtOf wr, z.1.cell? ⟨g, off + (k + 1), none⟩ = _ := fun z => z.2.cell hc3
            have hcz4 : ∀ z : ExtOf wr, z.1.cell? ⟨b3, o3 + t, none⟩ = _ := fun z => z.2.cell hc4
            have hcz5 : ∀ z : ExtOf wr, z.1.cell? ⟨g, off + k, none⟩ = _ := fun z => z.2.cell hc5
            have hcz6 : ∀ z : ExtOf wr, z.1.cell? ⟨b4, o4 + s, none⟩ = _ := fun z => z.2.cell hc6
            have h1 := bv_bd (m.drop (k + 1)) t (fun r hr => (okMat_mem HM.out (List.mem_of_mem_drop hr)))
            rw [← HF.out (k + 1) (by omega) t hls, List.length_drop] at h1
            generalize ff P (j + 1) (m[k].length - (j + 1)) = L at hff ⊢
            have HFF := hid hff
            have HPJ := hid hpj
            clear hff hpj ht hc1 hc2 hc3 hc4 hc5 hc6
            cases hbit : s.testBit j with
            | true =>
              rw [hbit, Bool.not_true] at hbt
              have HV := hid hbit
              clear hbit
              go_wp2_with fail
              refine wp_region_ext (by kernel_rfl) (by kernel_rfl) ?_
              repeat (go_big_quiet_step ((fail)))
              refine wpQuiet_nil ?_
              rintro w4 ⟨⟨_, x4⟩, rfl⟩
              go_wp2
              go_roundw
              case rel => exact ⟨j, by omega, by go_num, by rw [HFF.out, HPJ.out, HV.out]; simp, hx3.trans x4⟩
              case measure => simp [intOf]
            | false =>
              rw [hbit, Bool.not_false] at hbt
              have HV := hid hbit
              clear hbit
              by_cases hv : 0 < m[k][j]
              · by_cases hsum : m[k][j] + f (k + 1) t = f k s
                · have hsb2 : (m[k][j] + f (k + 1) t == f k s) = true := by simp [hsum]
                  have HSU := hid hsum
                  clear hsum
                  go_wp2_with fail
                  refine wp_region_ext (by kernel_rfl) (by kernel_rfl) ?_
                  repeat (go_big_quiet_step ((fail)))
                  refine wpQuiet_nil ?_
                  rintro w4 ⟨⟨_, x4⟩, rfl⟩
                  go_wp2
                  go_roundw
                  case rel => exact ⟨j, by omega, by go_num, by rw [HFF.out, HPJ.out, HV.out, HSU.out]; simp [hv], hx3.trans x4⟩
                  case measure => simp [intOf]
                · have hsb2 : (m[k][j] + f (k + 1) t == f k s) = false := by simp [hsum]
                  have HSU := hid hsum
                  clear hsum
                  go_wp2_with fail
                  refine wp_region_ext (by kernel_rfl) (by kernel_rfl) ?_
                  repeat (go_big_quiet_step ((fail)))
                  refine wpQuiet_nil ?_
                  rintro w4 ⟨⟨_, x4⟩, rfl⟩
                  go_wp2
                  go_roundw
                  case rel => exact ⟨j, by omega, by go_num, by rw [HFF.out, HPJ.out, HV.out, decide_eq_false HSU.out]; simp, hx3.trans x4⟩
                  case measure => simp [intOf]
              · have hvd : decide (0 < m[k][j]) = false := by simpa using hv
                have hv9 := hid hv
                clear hv
                go_wp2_with fail
                refine wp_region_ext (by kernel_rfl) (by kernel_rfl) ?_
                repeat (go_big_quiet_step ((fail)))
                refine wpQuiet_nil ?_
                rintro w4 ⟨⟨_, x4⟩, rfl⟩
                go_wp2
                go_roundw
                case rel => exact ⟨j, by omega, by go_num, by rw [HFF.out, HPJ.out, hvd]; simp, hx3.trans x4⟩
                case measure => simp [intOf]
      · go_wp2
        go_ret
        obtain ⟨F', d1, d2, d3⟩ := hB.done
        refine ⟨_, F', rfl, ?_, ⟨d2, d3⟩, hx⟩
        rw [HD.out, List.drop_of_length_le (by omega), asgFrom, List.append_nil]
        exact d1
  · have hok' : okMat m = false := by simpa using hok
    have hb : bestAsg m = [] := by unfold bestAsg; rw [if_neg hok]
    rw [hb]
    clear hb hok
    go_enter Try.func32, Try.ntmps32
    go_wp2_with fail
    refine (spec_IsOverlapMatrix _ m _ (h.mono x0)).mono ?_
    rintro e w1 ⟨rfl, x1⟩
    rw [hok']
    clear hok'
    go_wp2
    go_ret
    obtain ⟨F', d1, d2, d3⟩ := ((Bld.lit (R := intO) w (Nat.le_refl _) 3).ext x1).done
    exact ⟨_, F', rfl, d1, ⟨d2, d3⟩, x0.trans x1⟩
end Go.Proofs.Ytenfgmpndpgbhaa
