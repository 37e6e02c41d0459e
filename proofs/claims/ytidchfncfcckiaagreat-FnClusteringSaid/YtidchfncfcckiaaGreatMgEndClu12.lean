/-
  SEVERAL SMALL TEXTS LAID TOGETHER: RunS, BpvS, MvbS, GrdS, ImpS, ClS.
-/
import Derived.Test.YtidchfncfcckiaaGreatMgEndClu11
import Derived.Test.YtidchfncfcckiaaGreatMgEndClu10
import Derived.Test.YtidchfncfcckiaaGreatMgEndClu7
import Derived.Test.YtidchfncfcckiaaGreatMgEndClu4

namespace Go.Proofs.YtidchfncfcckiaaGreat
open Go.RowKit

section
variable {w : World} {g : Nat} {e : TypeId} {a b c d f : Value}
theorem Blk.c5 (h : Blk w g e [a, b, c, d, f]) : (w.cell? ⟨g, 0, none⟩ = some a ∧ w.cell? ⟨g, 1, none⟩ = some b ∧ w.cell? ⟨g, 2, none⟩ = some c ∧ w.cell? ⟨g, 3, none⟩ = some d ∧ w.cell? ⟨g, 4, none⟩ = some f) ∧ ∀ i, w.frozen? ⟨g, i, none⟩ = false :=
  ⟨⟨h.cells.1 0, h.cells.1 1, h.cells.1 2, h.cells.1 3, h.cells.1 4⟩, h.cells.2⟩
theorem Blk.store5 (h : Blk w g e [a, b, c, d, f]) (x y z u v : Value) :
    Blk (((((w.setCell ⟨g, 0, none⟩ x).setCell ⟨g, 1, none⟩ y).setCell ⟨g, 2, none⟩ z).setCell ⟨g, 3, none⟩ u).setCell ⟨g, 4, none⟩ v) g e [x, y, z, u, v] := by
  have b1 := Blk.store (done := []) h rfl x
  have b2 := Blk.store (done := [x]) b1 rfl y
  have b3 := Blk.store (done := [x, y]) b2 rfl z
  have b4 := Blk.store (done := [x, y, z]) b3 rfl u
  exact Blk.store (done := [x, y, z, u]) b4 rfl v
theorem Blk.keepB {w w2 : World} {g : Nat} {e : TypeId} {cs : List Value} {bs : List Nat} (h : Blk w g e cs) (k : KeepB w w2 bs) (hg : g ∉ bs) : Blk w2 g e cs := h.keep (k.2 g (block_lt h) hg)
end

set_option maxHeartbeats 2000000 in
set_option maxRecDepth 20000 in
theorem spec_l20Run (v u : Value) (m : List (List Int)) (l : List Constraint) (w : World) (h : Sl (slR intR) w v m) (k : Sl constraintR w u l) (hm : WM m) (hc : consistB m.length l = true) :
    Calls Tryz.prog 96 #[v, u] w fun e w2 => ∃ v2 F, e = .returned (.tuple #[.agg #[v, u, v2, .int .i64 (bestF m l).2.1, .int .i64 (bestF m l).2.2], .bool true]) ∧ OwnSl intO w2 v2 (bestF m l).1 F ∧ NewF w F ∧ Ext w w2 := by
  have HA := hid (fun (W : World) (y : Ext w W) => spec_IsWeightMatrix v m W (h.mono y))
  rw [wmB_yes hm] at HA
  have HB := hid (fun (W : World) (y : Ext w W) => spec_IsConsistent m.length u l W (k.mono y) ⟨hm.n1, hm.n8⟩)
  rw [hc] at HB
  obtain ⟨A, cap, rfl, hm1⟩ := h.form
  obtain ⟨B, cap2, rfl, hm2⟩ := k.form
  have hac : areConB m.length l = true := by unfold consistB at hc; rw [Bool.and_eq_true] at hc; exact hc.1
  obtain ⟨_, _, _, h4⟩ := areCon_iff.1 hac
  have x1 : Ext w (w.alloc (.cells #[.slice none 0 0, .slice none 0 0, .slice none 0 0, .int .i64 0, .int .i64 0] 100)) := (Ext.refl _).alloc _
  have HX1 := hid x1
  have HH := hid (And.intro h (And.intro k (And.intro hm (show ∀ c ∈ l, 0 ≤ c.a ∧ c.a < c.b from fun c hc => ⟨(h4 c hc).1, (h4 c hc).2.2.2.2⟩))))
  have HWQ := hid (show walkF m l m.length [] 0 (costP m []) ([], -1, 0) = bestF m l from walk_eq m l m.length (fun c hc => by have := h4 c hc; omega) m.length [] 0 ([], -1, 0) (by simp) (fun c hc hb => by have := h4 c hc; simp at hb; omega))
  have HC0 := hid (show costP m [] = 0 from rfl)
  have HLB := hid (leaves_bd hm.n8)
  clear h k hm hc hac h4 x1
  go_enter Tryz.func96, Tryz.ntmps96
  go_wp2_with fail
  have HB4 := hid (Blk.new w 100 #[.slice none 0 0, .slice none 0 0, .slice none 0 0, .int .i64 0, .int .i64 0])
  refine (HA.out _ HX1.out).mono ?_
  rintro e w2 ⟨rfl, x2⟩
  go_wp2_with fail
  refine (HB.out _ (HX1.out.trans x2)).mono ?_
  rintro e w3 ⟨rfl, x3⟩
  have HX3 := hid ((HX1.out.trans x2).trans x3)
  have HB43 := hid ((HB4.out.ext x2).ext x3)
  clear x2 x3
  go_wp2_with fail
  obtain ⟨W6, hW6⟩ : ∃ W, W = w3.alloc (.cells #[.slice A m.length cap, .slice B l.length cap2, .slice none 0 0, .int .i64 (-1), .int .i64 0] 100) := ⟨_, rfl⟩
  obtain ⟨W7, hW7⟩ : ∃ W, W = W6.alloc (.cells #[] 3) := ⟨_, rfl⟩
  rw [← hW6, ← hW7]
  have s6 : W6.heap.size = w3.heap.size + 1 := by rw [hW6]; simp
  have b6 : Blk W6 w3.heap.size 100 [.slice A m.length cap, .slice B l.length cap2, .slice none 0 0, .int .i64 (-1), .int .i64 0] := by rw [hW6]; exact Blk.new w3 100 #[.slice A m.length cap, .slice B l.length cap2, .slice none 0 0, .int .i64 (-1), .int .i64 0]
  have x6 : Ext w3 W6 := by rw [hW6]; exact (Ext.refl _).alloc _
  have x7 : Ext W6 W7 := by rw [hW7]; exact (Ext.refl _).alloc _
  obtain ⟨F0, o0, n0, f0⟩ := (Bld.lit (R := intO) W6 (Nat.le_refl _) 3).done
  rw [← hW7, s6] at o0
  obtain ⟨h, k, hm, hl⟩ := HH.out
  have hx7 := (HX3.out.trans x6).trans x7
  have hJ : WalkJ w W7 w3.heap.size (.slice A m.length cap) (.slice B l.length cap2) W7 ([], -1, 0) := ⟨⟨.slice none 0 0, [], b6.ext x7, .inl ⟨rfl, rfl, none, 0, rfl, Nat.zero_le _⟩, .nil _⟩, hx7, KeepB.refl _ _, by decide⟩
  have HC := hid (walk_c m l hm w W7 A B cap cap2 w3.heap.size h k (block_lt (b6.ext x7)) HX3.out.size hl m.length [] 0 ([], -1, 0) W7 _ F0 (by simp) (Nat.le_refl _) o0 (fun b hb e => by have := f0 b hb; omega) hJ (by have := HLB.out; dsimp only; omega))
  rw [HWQ.out, HC0.out] at HC
  have HB47 := hid (((HB43.out).ext x6).ext x7)
  have HG := hid (show w.heap.size < w3.heap.size from block_lt HB43.out)
  have HX7 := hid hx7
  clear hW6 hW7 s6 b6 x6 x7 o0 n0 f0 h k hm hl hx7 hJ
  refine (HC.out).mono ?_
  rintro e w8 ⟨rfl, J8, K8⟩
  obtain ⟨vb, F, f1, f2, f3⟩ := J8.blk
  obtain ⟨A8, c8, e8, _⟩ := f2.form
  subst e8
  obtain ⟨⟨r0, r1, r2, r3, r4⟩, rf⟩ := f1.c5
  have b48 := HB47.out.keepB K8 (by simp; have := HG.out; omega)
  obtain ⟨⟨q0, q1, q2, q3, q4⟩, qf⟩ := b48.c5
  have b49 := b48.store5 (.slice A m.length cap) (.slice B l.length cap2) (.slice A8 (bestF m l).1.length c8) (.int .i64 (bestF m l).2.1) (.int .i64 (bestF m l).2.2)
  have qf0 := qf 0
  have qf1 := qf 1
  have qf2 := qf 2
  have qf3 := qf 3
  have qf4 := qf 4
  have HJ8 := hid J8
  have HF := hid (And.intro f2 f3)
  have HB49 := hid b49
  clear f1 f2 f3 J8 b48 b49 K8
  go_wp2
  obtain ⟨⟨t0, t1, t2, t3, t4⟩, _⟩ := HB49.out.c5
  refine bodyPost_ret (v := .tuple #[.agg #[.slice A m.length cap, .slice B l.length cap2, .slice A8 (bestF m l).1.length c8, .int .i64 (bestF m l).2.1, .int .i64 (bestF m l).2.2], .bool true]) (by simp [results, Tryz.results96, go_sem, t0, t1, t2, t3, t4]) rfl ?_
  have hgF : w.heap.size ∉ F := fun hm => by have := HF.out.2.2 _ hm; have := HX7.out.size; have := HG.out; have := block_lt HB47.out; omega
  exact ⟨_, F, rfl, ((((HF.out.1.setCell hgF _).setCell hgF _).setCell hgF _).setCell hgF _).setCell hgF _, ⟨HF.out.2.1, fun b hb => Nat.le_trans HX7.out.size (HF.out.2.2 b hb)⟩, ((((HJ8.out.ext.setCell (Nat.le_refl _) _).setCell (Nat.le_refl _) _).setCell (Nat.le_refl _) _).setCell (Nat.le_refl _) _).setCell (Nat.le_refl _) _⟩

set_option maxHeartbeats 400000 in
set_option maxRecDepth 20000 in
theorem spec_BestPartition (v u : Value) (m : List (List Int)) (l : List Constraint) (w : World) (h : Sl (slR intR) w v m) (k : Sl constraintR w u l) (hm : WM m) (hc : consistB m.length l = true) :
    Calls Tryz.prog 45 #[v, u] w fun e w2 => ∃ v2 F, e = .returned (.tuple #[v2, .int .i64 (bestF m l).2.1, .bool true]) ∧ OwnSl intO w2 v2 (bestF m l).1 F ∧ NewF w F ∧ Ext w w2 := by
  have HA := hid (spec_l20Run v u m l w h k hm hc)
  obtain ⟨A, cap, rfl, hm1⟩ := h.form
  obtain ⟨B, cap2, rfl, hm2⟩ := k.form
  clear h k hm hc
  go_enter Tryz.func45, Tryz.ntmps45
  go_wp2_with fail
  refine (HA.out).mono ?_
  rintro e w2 ⟨v2, F, rfl, o2, n2, x2⟩
  obtain ⟨A2, c2, e2, _⟩ := o2.form
  subst e2
  have b7 := Blk.new w2 100 #[.slice A m.length cap, .slice B l.length cap2, .slice A2 (bestF m l).1.length c2, .int .i64 (bestF m l).2.1, .int .i64 (bestF m l).2.2]
  have x7 : Ext w2 (w2.alloc (.cells #[.slice A m.length cap, .slice B l.length cap2, .slice A2 (bestF m l).1.length c2, .int .i64 (bestF m l).2.1, .int .i64 (bestF m l).2.2] 100)) := (Ext.refl _).alloc _
  obtain ⟨W, hW⟩ : ∃ W, W = w2.alloc (.cells #[.slice A m.length cap, .slice B l.length cap2, .slice A2 (bestF m l).1.length c2, .int .i64 (bestF m l).2.1, .int .i64 (bestF m l).2.2] 100) := ⟨_, rfl⟩
  rw [← hW] at b7 x7
  have y2 : ∀ z : ExtOf W, z.1.cell? ⟨w2.heap.size, 2, none⟩ = some (.slice A2 (bestF m l).1.length c2) := fun z => (b7.ext z.2).cells.1 2
  have y3 : ∀ z : ExtOf W, z.1.cell? ⟨w2.heap.size, 3, none⟩ = some (.int .i64 (bestF m l).2.1) := fun z => (b7.ext z.2).cells.1 3
  have HO := hid (And.intro (o2.ext x7) (And.intro n2 (x2.trans x7)))
  have HW := hid hW
  clear hW b7 o2 n2 x2 x7
  go_wp2_with fail
  rw [← HW.out]
  refine wp_region_ext (by kernel_rfl) (by kernel_rfl) ?_
  repeat (go_big_quiet_step ((fail)))
  refine wpQuiet_nil ?_
  rintro w5 ⟨⟨_, x5⟩, rfl⟩
  go_wp2
  refine bodyPost_ret (v := .tuple #[.slice A2 (bestF m l).1.length c2, .int .i64 (bestF m l).2.1, .bool true]) (by simp [results, Tryz.results45, go_sem]) rfl ?_
  exact ⟨_, F, rfl, HO.out.1.ext x5, HO.out.2.1, HO.out.2.2.trans x5⟩
end Go.Proofs.YtidchfncfcckiaaGreat

namespace Go.Proofs.YtidchfncfcckiaaGreat
open Go.RowKit

theorem rot_takeS (n s k : Nat) (hk : k < n) : (rotL n s).take (k + 1) = (rotL n s).take k ++ [(((s + k) % n : Nat) : Int)] := by
  rw [List.take_succ_eq_append_getElem (by unfold rotL; simp; exact hk)]
  congr 2
  unfold rotL
  simp
set_option maxHeartbeats 2000000 in
set_option maxRecDepth 20000 in
theorem spec_BestPivot (v : Value) (m : List (List Int)) (w : World) (h : Sl (slR intR) w v m) (hm : WM m) :
    Calls Tryz.prog 46 #[v] w fun e w2 => ∃ v2 F, e = .returned (.tuple #[v2, .int .i64 (bpN m m.length).2]) ∧ OwnSl intO w2 v2 (bpN m m.length).1 F ∧ NewF w F ∧ Ext w w2 := by
  have HA := hid (fun (W : World) (y : Ext w W) => spec_IsWeightMatrix v m W (h.mono y))
  rw [wmB_yes hm] at HA
  obtain ⟨A, cap, rfl, hm1⟩ := h.form
  have h1 := hm.n1
  have h8 := hm.n8
  have HM := hid hm
  have HH := hid h
  clear hm h
  go_enter Tryz.func46, Tryz.ntmps46
  go_wp2_with fail
  go_loopw [4, 5, 6] (fun t c i wr => ∃ (s : Nat) (F : List Nat), s ≤ m.length ∧ i = .int .i64 s ∧ OwnSl intO wr t (bpN m s).1 F ∧ NewF w F ∧ c = .int .i64 (bpN m s).2 ∧ Ext w wr) (fun _ _ i _ => m.length - (intOf i).toNat)
  case atStart => exact ⟨0, [], Nat.zero_le _, rfl, .inl ⟨rfl, rfl, _, _, rfl, Nat.zero_le _⟩, .nil _, rfl, (Ext.refl _).alloc _⟩
  case round =>
    obtain ⟨s, F, hs, rfl, hO, hN, rfl, hx⟩ := hrel
    by_cases hlt : s < m.length
    · have HO := hid hO
      have HN := hid hN
      obtain ⟨w00, hw00⟩ : ∃ w0, w0 = wr := ⟨_, rfl⟩
      rw [← hw00] at HO hx ⊢
      have HX0 := hid hx
      have HST := hid (show bpN m (s + 1) = bpSt m (bpN m s) s from rfl)
      obtain ⟨T, hT⟩ : ∃ T, T = bpN m s := ⟨_, rfl⟩
      rw [← hT] at HST HO
      have hcT : s = 0 ∧ T.2 = -1 ∨ 0 ≤ T.2 ∧ T.2 ≤ 64000 := by
        by_cases h0 : s = 0
        · subst h0
          left; rw [hT]; exact ⟨rfl, rfl⟩
        · obtain ⟨_, f2, f3⟩ := bpN_facts m s (by omega)
          right
          rw [hT, f3]
          exact costP_le HM.out (by omega)
      have HT := hid hT
      clear hw00 hO hN hx hT
      go_wp2_with fail
      refine (HA.out _ HX0.out).mono ?_
      rintro e w0 ⟨rfl, x0⟩
      have HX := hid (HX0.out.trans x0)
      have HO := hid (HO.out.ext x0)
      clear x0
      go_wp2_with fail
      go_loopw [7, 8] (fun t i wr => ∃ k : Nat, k ≤ m.length ∧ i = .int .i64 k ∧ Bld intO wr w0.heap.size 3 t ((rotL m.length s).take k) [] ∧ Ext w0 wr) (fun _ i _ => m.length - (intOf i).toNat)
      case atStart => exact ⟨0, Nat.zero_le _, rfl, Bld.lit w0 (Nat.le_refl _) _, (Ext.refl _).alloc _⟩
      case round =>
        obtain ⟨k, hk, rfl, hB, hx⟩ := hrel
        by_cases hkm : k < m.length
        · have HR := hid (rot_takeS m.length s k hkm)
          have hln : ((rotL m.length s).take k).length = k := by rw [List.length_take]; unfold rotL; simp; omega
          have hrem : Int.tmod ((s : Int) + (k : Int)) (m.length : Int) = (((s + k) % m.length : Nat) : Int) := by
            rw [Int.tmod_eq_emod_of_nonneg (by omega)]; simp
          have hml : (s + k) % m.length < m.length := Nat.mod_lt _ (by omega)
          have hne : ¬ ((m.length : Int) = 0) := by omega
          have HSZ := hid (show ((rotL m.length s).take k).length + 1 ≤ 1099511627776 by omega)
          have HI := hid (show I64 (((s + k) % m.length : Nat) : Int) from by unfold I64; omega)
          clear hln
          go_wp2_with (at_builtin; refine wpList_app1 (R := intO) elemInt (by decide) rfl _ _ rfl hB rfl _ 1 rfl (by simp) (one_int _) (y := (((s + k) % m.length : Nat) : Int)) (own_int _ _ HI.out) fresh_nil HSZ.out (by decide) hx.size ?_; intro v9 w9 hB9 hE9)
          go_roundw
          case rel => exact ⟨k + 1, by omega, by go_num, by rw [HR.out]; exact hB9, hE9 w0 (Nat.le_refl _) hx⟩
          case measure => simp [intOf]; omega
        · have hrl : (rotL m.length s).take k = rotL m.length s := List.take_of_length_le (by unfold rotL; simp; omega)
          rw [hrl] at hB
          have HB := hid hB
          have HPP := hid (spec_PivotPartition _ _ m (rotL m.length s) wr (HH.out.mono (HX.out.trans hx)) hB.sl HM.out (rotL_ord hlt))
          clear hB hrl
          go_wp2_with fail
          refine (HPP.out).mono ?_
          rintro e w3 ⟨v3, F3, rfl, o3, n3, x3⟩
          have HPC := hid (spec_l19Cost _ _ m (pivotP m (rotL m.length s)) w3 (HH.out.mono (HX.out.trans (hx.trans x3))) o3.sl HM.out (by rw [(pivotP_facts m _).2]; exact Nat.le_refl _))
          have hcc := costP_le HM.out (p := pivotP m (rotL m.length s)) (by rw [(pivotP_facts m _).2]; exact Nat.le_refl _)
          have HST2 := hid (show bpN m (s + 1) = if T.2 < 0 ∨ costP m (pivotP m (rotL m.length s)) < T.2 then (pivotP m (rotL m.length s), costP m (pivotP m (rotL m.length s))) else T from HST.out)
          obtain ⟨c, hc⟩ : ∃ c, c = costP m (pivotP m (rotL m.length s)) := ⟨_, rfl⟩
          rw [← hc] at HPC hcc HST2
          obtain ⟨PV, hPV⟩ : ∃ PV, PV = pivotP m (rotL m.length s) := ⟨_, rfl⟩
          rw [← hPV] at HST2 o3
          obtain ⟨A3, c3, e3, _⟩ := o3.form
          subst e3
          have HX3 := hid (HX.out.trans (hx.trans x3))
          have HO3 := hid o3
          have HN3 := hid (n3.ext (HX.out.trans hx))
          have HXQ := hid (hx.trans x3)
          clear hc hPV o3 n3 x3 hx
          go_wp2_with fail
          refine (HPC.out).mono ?_
          rintro e w4 ⟨rfl, x4⟩
          by_cases hb : T.2 < 0 ∨ c < T.2
          · have hcase : decide (T.2 < 0) = true ∨ (decide (T.2 < 0) = false ∧ decide (c < T.2) = true) := by
              by_cases h : T.2 < 0
              · exact .inl (by simp [h])
              · exact .inr ⟨by simp [h], by simp; omega⟩
            have HE := hid (show bpN m (s + 1) = (PV, c) from by rw [HST2.out, if_pos hb])
            clear hb
            rw [← HT.out]
            rcases hcase with hd | ⟨hd, hd2⟩
            · go_wp2
              go_roundw
              case rel => exact ⟨s + 1, F3, by omega, by go_num, by rw [HE.out]; exact HO3.out.ext x4, HN3.out, by rw [HE.out], HX3.out.trans x4⟩
              case measure => simp [intOf]; omega
            · go_wp2
              go_roundw
              case rel => exact ⟨s + 1, F3, by omega, by go_num, by rw [HE.out]; exact HO3.out.ext x4, HN3.out, by rw [HE.out], HX3.out.trans x4⟩
              case measure => simp [intOf]; omega
          · have hd : decide (T.2 < 0) = false := by simp; omega
            have hd2 : decide (c < T.2) = false := by simp; omega
            have HE := hid (show bpN m (s + 1) = T from by rw [HST2.out, if_neg hb])
            clear hb
            rw [← HT.out]
            go_wp2
            go_roundw
            case rel => exact ⟨s + 1, F, by omega, by go_num, by rw [HE.out]; exact HO.out.ext (HXQ.out.trans x4), HN.out, by rw [HE.out], HX3.out.trans x4⟩
            case measure => simp [intOf]; omega
    · have hsm : s = m.length := by omega
      subst hsm
      obtain ⟨A4, c4, e4, _⟩ := hO.form
      subst e4
      have HO := hid hO
      clear hO
      go_wp2_with fail
      refine bodyPost_ret (v := .tuple #[.slice A4 (bpN m m.length).1.length c4, .int .i64 (bpN m m.length).2]) (by simp [results, Tryz.results46, go_sem]) rfl ?_
      exact ⟨_, F, rfl, HO.out, hN, hx⟩
end Go.Proofs.YtidchfncfcckiaaGreat

namespace Go.Proofs.YtidchfncfcckiaaGreat
open Go.RowKit

set_option maxHeartbeats 4000000 in
set_option maxRecDepth 20000 in
theorem spec_BestMove (v u z : Value) (m : List (List Int)) (cs : List Constraint) (l : List Int) (w : World) (h : Sl (slR intR) w v m) (h2 : Sl constraintR w u cs) (h3 : Sl intR w z l) (hm : WM m) (hp : partB l = true) (hl : l.length = m.length) :
    Calls Tryz.prog 101 #[v, u, z] w fun e w2 => e = .returned (.tuple #[.agg #[.int .i64 (mvP m cs l).1, .int .i64 (mvP m cs l).2.1, .int .i64 (mvP m cs l).2.2], .bool (decide (0 < (mvP m cs l).2.2))]) ∧ Ext w w2 := by
  obtain ⟨hr, h1, h8⟩ := partB_iff.1 hp
  obtain ⟨W1, hW1⟩ : ∃ W, W = w.alloc (.cells #[.int .i64 0, .int .i64 0, .int .i64 0] 109) := ⟨_, rfl⟩
  obtain ⟨W2, hW2⟩ : ∃ W, W = W1.alloc (.cells #[.int .i64 0, .int .i64 0, .int .i64 0] 109) := ⟨_, rfl⟩
  have x1 : Ext w W1 := by rw [hW1]; exact (Ext.refl _).alloc _
  have x2 : Ext W1 W2 := by rw [hW2]; exact (Ext.refl _).alloc _
  have bR : Blk W2 w.heap.size 109 [.int .i64 0, .int .i64 0, .int .i64 0] := Blk.ext (by rw [hW1]; exact Blk.new w 109 #[.int .i64 0, .int .i64 0, .int .i64 0]) x2
  have s1 : W1.heap.size = w.heap.size + 1 := by rw [hW1]; simp
  have bF : Blk W2 (w.heap.size + 1) 109 [.int .i64 0, .int .i64 0, .int .i64 0] := by
    have := Blk.new W1 109 #[.int .i64 0, .int .i64 0, .int .i64 0]
    rw [s1] at this
    rw [hW2]
    exact this
  have x12 := x1.trans x2
  have HP0 := hid (spec_PartitionCost v z m l W2 (h.mono x12) (h3.mono x12) hm hp hl)
  have HK0 := hid (fun (W : World) (y : Ext W2 W) => spec_KeepsConstraints z u l cs W (h3.mono (x12.trans y)) (h2.mono (x12.trans y)))
  rw [hp, Bool.true_and] at HK0
  have hcb := costP_le hm (p := l) (by omega)
  have HMI := hid (fun (W : World) (y : Ext w W) (i k : Nat) (hi : i < l.length) (hk : k ≤ 8) => spec_MoveItem _ l i k W (h3.mono y) hp hi hk)
  have HMG := hid (fun (W : World) (y : Ext w W) (i k : Nat) (hi : i < l.length) (hk : k ≤ 8) => spec_MoveGain _ _ m l i k W (h.mono y) (h3.mono y) hm hp hl hi hk)
  have HKO := hid (fun (W : World) (y : Ext w W) (z : Value) (o : List Int) (q : Sl intR W z o) => spec_KeepsConstraints _ _ o cs W q (h2.mono y))
  obtain ⟨A, cap, rfl, hm1⟩ := h.form
  obtain ⟨B, cap2, rfl, hm2⟩ := h2.form
  obtain ⟨C, cap3, rfl, hm3⟩ := h3.form
  have HV := hid (show mvP m cs l = if keepsB l cs = true then mvOut m cs l l.length else (0, 0, 0) from rfl)
  obtain ⟨kb, hkb⟩ : ∃ c, c = keepsB l cs := ⟨_, rfl⟩
  rw [← hkb] at HK0 HV
  have HXB := hid x12
  have HCO := hid (fun (i k : Nat) => (show 0 ≤ costP m (movedP l i k) ∧ costP m (movedP l i k) ≤ 64000 from costP_le hm (by rw [(movedP_facts l i k).2]; omega)))
  have HPT := hid (fun (i k : Nat) => movedP_part hp i k)
  have hnb := RG.next_le (l := l) (k := l.length) (by rw [List.take_length]; exact hr) (Nat.le_refl _)
  rw [List.take_length] at hnb
  obtain ⟨nx, hnx⟩ : ∃ n : Nat, nextOf l = n := ⟨(nextOf l).toNat, by omega⟩
  have HST := hid (fun (i : Nat) => (show mvOut m cs l (i + 1) = mvIn m cs l i (mvOut m cs l i) (nx + 1) from by rw [mvOut, hnx, Int.toNat_natCast]))
  have HIN := hid (fun (i : Nat) (T : Nat × Nat × Int) (k : Nat) => (show mvIn m cs l i T (k + 1) = if (mvIn m cs l i T k).2.2 < costP m l - costP m (movedP l i k) ∧ keepsB (movedP l i k) cs = true then (i, k, costP m l - costP m (movedP l i k)) else mvIn m cs l i T k from rfl))
  have HOK := hid (fun (i : Nat) (hi : i ≤ l.length) => mvOut_ok (m := m) (cs := cs) i hi)
  have HOI := hid (fun (i : Nat) (T : Nat × Nat × Int) (hi : i < l.length) (hT : MvOk m cs l T) (k : Nat) (hk : k ≤ nx + 1) => mvIn_ok hi hT k (by rw [hnx, Int.toNat_natCast]; exact hk))
  have HMP := hid (fun (i k : Nat) => (show miP l i k = if k ≤ nx then movedP l i k else l from by unfold miP; rw [hnx, Int.toNat_natCast]))
  rw [hnx, Int.toNat_natCast] at HMI HMG
  obtain ⟨c, hcc⟩ : ∃ c, c = costP m l := ⟨_, rfl⟩
  rw [← hcc] at HP0 hcb HIN HMG
  have HCC := hid hcc
  have hnxl : nx ≤ l.length := by omega
  have hc0 : decide (c < 0) = false := by simp; omega
  have HBR := hid bR
  have HBF := hid bF
  have HW1 := hid hW1
  have HW2 := hid hW2
  clear h h2 h3 hm hp hl hr hnx hnb hcc hkb x1 x2 x12 bR bF s1 hW1 hW2
  cases kb with
  | false =>
    rw [if_neg (by decide)] at HV
    rw [HV.out]
    go_enter Tryz.func101, Tryz.ntmps101
    go_wp2_with fail
    rw [← HW1.out, ← HW2.out]
    refine (HP0.out).mono ?_
    rintro e w3 ⟨rfl, x3⟩
    go_wp2_with fail
    refine (HK0.out _ x3).mono ?_
    rintro e w4 ⟨rfl, x4⟩
    have b8 := (HBF.out.ext x3).ext x4
    obtain ⟨⟨d0, d1, d2⟩, _⟩ := b8.c3
    obtain ⟨⟨a0, a1⟩, ⟨a2, a3⟩, ⟨a4, a5⟩, b9⟩ := ((HBR.out.ext x3).ext x4).store3 (.int .i64 0) (.int .i64 0) (.int .i64 0)
    have HB9 := hid b9
    have HX9 := hid ((HXB.out.trans x3).trans x4)
    clear b8 b9
    go_wp2_with fail
    obtain ⟨⟨r0, r1, r2⟩, _⟩ := HB9.out.c3
    refine bodyPost_ret (v := .tuple #[.agg #[.int .i64 0, .int .i64 0, .int .i64 0], .bool false]) (by simp [results, Tryz.results101, go_sem, r0, r1, r2]) rfl ?_
    exact ⟨rfl, ((HX9.out.setCell (Nat.le_refl _) _).setCell (Nat.le_refl _) _).setCell (Nat.le_refl _) _⟩
  | true =>
    rw [if_pos rfl] at HV
    rw [HV.out]
    obtain ⟨gR, hgR⟩ : ∃ g, g = w.heap.size := ⟨_, rfl⟩
    have HGR := hid hgR
    go_enter Tryz.func101, Tryz.ntmps101
    go_wp2_with fail
    rw [← HW1.out, ← HW2.out]
    refine (HP0.out).mono ?_
    rintro e w3 ⟨rfl, x3⟩
    go_wp2_with fail
    refine (HK0.out _ x3).mono ?_
    rintro e w4 ⟨rfl, x4⟩
    obtain ⟨g8, hg8⟩ : ∃ g, g = w.heap.size + 1 := ⟨_, rfl⟩
    have HG8 := hid hg8
    have HB4 := hid ((HBF.out.ext x3).ext x4)
    have HBR4 := hid ((HBR.out.ext x3).ext x4)
    have HX4 := hid ((HXB.out.trans x3).trans x4)
    rw [← hg8] at HB4
    rw [← hgR] at HBR4
    clear x3 x4 hg8 hgR HBF HBR HW1 HW2
    go_wp2_with fail
    rw [← HG8.out, ← HGR.out]
    go_loopw [9] (fun i wr => ∃ i' : Nat, i' ≤ l.length ∧ i = .int .i64 i' ∧ Blk wr g8 109 [.int .i64 (mvOut m cs l i').1, .int .i64 (mvOut m cs l i').2.1, .int .i64 (mvOut m cs l i').2.2] ∧ Blk wr gR 109 [.int .i64 0, .int .i64 0, .int .i64 0] ∧ Ext w wr) (fun i _ => l.length - (intOf i).toNat)
    case atStart => exact ⟨0, Nat.zero_le _, rfl, HB4.out, HBR4.out, HX4.out⟩
    case round =>
      clear HB4 HX4 HBR4
      obtain ⟨i, hi, rfl, hB, hBR, hx⟩ := hrel
      have HBR := hid hBR
      clear hBR
      by_cases hlt : i < l.length
      · have HS := hid (HST.out i)
        have hTo := HOK.out i hi
        obtain ⟨T, hT⟩ : ∃ T, T = mvOut m cs l i := ⟨_, rfl⟩
        rw [← hT] at HS hTo hB
        have HTO := hid hTo
        have HB := hid hB
        have HX := hid hx
        have HBR0 := hid HBR.out
        clear hT hTo hB hx
        go_wp2_with fail
        go_loopw [10] (fun t wr => ∃ (k : Nat) (U : Nat × Nat × Int), k ≤ l.length + 1 ∧ t = .int .i64 k ∧ U = mvIn m cs l i T (min k (nx + 1)) ∧ Blk wr g8 109 [.int .i64 U.1, .int .i64 U.2.1, .int .i64 U.2.2] ∧ Blk wr gR 109 [.int .i64 0, .int .i64 0, .int .i64 0] ∧ Ext w wr) (fun t _ => l.length + 1 - (intOf t).toNat)
        case atStart => exact ⟨0, T, Nat.zero_le _, rfl, by rw [Nat.zero_min]; rfl, HB.out, HBR0.out, HX.out⟩
        case round =>
          clear HB HX HBR0 HBR
          obtain ⟨k, U, hk, rfl, hU, hB, hBR, hx⟩ := hrel
          have HBR := hid hBR
          clear hBR
          by_cases hkl : k ≤ l.length
          · have hk8 : k ≤ 8 := by omega
            have HM2 := hid (HMI.out wr hx i k hlt hk8)
            have HG2 := hid (fun (W : World) (y : Ext wr W) => HMG.out W (hx.trans y) i k hlt hk8)
            have HB := hid hB
            have HX := hid hx
            by_cases hkn : k ≤ nx
            · have hmn : min k (nx + 1) = k := by omega
              rw [hmn] at hU
              have hIo := HOI.out i T hlt HTO.out k (by omega)
              have HI := hid (HIN.out i T k)
              rw [← hU] at HI hIo
              have hub : 0 ≤ U.2.2 ∧ U.2.2 ≤ c := by have := hIo.1; have := hIo.2.1; have := HCC.out; omega
              have HMM := hid (show min (k + 1) (nx + 1) = k + 1 by omega)
              have hoc := HCO.out i k
              rw [show decide (k ≤ nx) = true from by simp [hkn], HMP.out, if_pos hkn] at HM2
              rw [if_pos hkn] at HG2
              have HPO := hid (HPT.out i k)
              obtain ⟨O, hO⟩ : ∃ O, O = movedP l i k := ⟨_, rfl⟩
              rw [← hO] at HI HM2 HG2 HPO hoc
              obtain ⟨d, hd⟩ : ∃ d, d = costP m O := ⟨_, rfl⟩
              rw [← hd] at HI hoc HG2
              clear hU hIo hB hx hmn hO hd
              go_wp2_with fail
              refine (HM2.out).mono ?_
              rintro e w5 ⟨v5, F5, rfl, o5, n5, x5⟩
              obtain ⟨A5, c5, e5, _⟩ := o5.form
              subst e5
              have HS5 := hid o5.sl
              clear o5 n5
              go_wp2_with fail
              refine (HG2.out _ x5).mono ?_
              rintro e w6 ⟨rfl, x6⟩
              have HX6 := hid (HX.out.trans (x5.trans x6))
              have hB6 := (HB.out.ext x5).ext x6
              have c2 := hB6.c3.1.2.2
              have HB6 := hid hB6
              have HBR6 := hid ((HBR.out.ext x5).ext x6)
              have HK6 := hid (HKO.out w6 HX6.out _ O (HS5.out.mono x6))
              rw [HPO.out, Bool.true_and] at HK6
              obtain ⟨kb, hkb⟩ : ∃ kb, kb = keepsB O cs := ⟨_, rfl⟩
              rw [← hkb] at HK6 HI
              clear hkb hB6 x5 x6 HM2 HG2 HB HX
              by_cases hgt : U.2.2 < c - d
              · have hgd : decide (U.2.2 < c - d) = true := by simp [hgt]
                cases kb with
                | true =>
                  have HE := hid (show mvIn m cs l i T (k + 1) = (i, k, c - d) from by rw [HI.out, if_pos ⟨hgt, rfl⟩])
                  clear hgt
                  go_wp2_with fail
                  refine (HK6.out).mono ?_
                  rintro e w7 ⟨rfl, x7⟩
                  obtain ⟨⟨a0, a1⟩, ⟨a2, a3⟩, ⟨a4, a5⟩, b9⟩ := (HB6.out.ext x7).store3 (.int .i64 i) (.int .i64 k) (.int .i64 (c - d))
                  have HB9 := hid b9
                  have hne : g8 ≠ gR := by have := HG8.out; have := HGR.out; omega
                  have HBR9 := hid (show Blk (((w7.setCell ⟨g8, 0, none⟩ (.int .i64 i)).setCell ⟨g8, 1, none⟩ (.int .i64 k)).setCell ⟨g8, 2, none⟩ (.int .i64 (c - d))) gR 109 [.int .i64 0, .int .i64 0, .int .i64 0] from (((HBR6.out.ext x7).other hne.symm).other hne.symm).other hne.symm)
                  have hgw : w.heap.size ≤ g8 := by have := HG8.out; omega
                  have HX9 := hid ((((HX6.out.trans x7).setCell (p := ⟨g8, 0, none⟩) hgw (.int .i64 i)).setCell (p := ⟨g8, 1, none⟩) hgw (.int .i64 k)).setCell (p := ⟨g8, 2, none⟩) hgw (.int .i64 (c - d)))
                  clear b9 hgw c2 hne
                  go_wp2
                  go_roundw
                  case rel => exact ⟨k + 1, (i, k, c - d), by omega, by go_num, by rw [HMM.out]; exact HE.out.symm, HB9.out, HBR9.out, HX9.out⟩
                  case measure => simp [intOf]; omega
                | false =>
                  have HE := hid (show mvIn m cs l i T (k + 1) = U from by rw [HI.out, if_neg fun h => by cases h.2])
                  clear hgt
                  go_wp2_with fail
                  refine (HK6.out).mono ?_
                  rintro e w7 ⟨rfl, x7⟩
                  go_wp2
                  go_roundw
                  case rel => exact ⟨k + 1, U, by omega, by go_num, by rw [HMM.out]; exact HE.out.symm, HB6.out.ext x7, HBR6.out.ext x7, HX6.out.trans x7⟩
                  case measure => simp [intOf]; omega
              · have hgd : decide (U.2.2 < c - d) = false := by simp; omega
                have HE := hid (show mvIn m cs l i T (k + 1) = U from by rw [HI.out, if_neg fun h => hgt h.1])
                clear hgt
                go_wp2
                go_roundw
                case rel => exact ⟨k + 1, U, by omega, by go_num, by rw [HMM.out]; exact HE.out.symm, HB6.out, HBR6.out, HX6.out⟩
                case measure => simp [intOf]; omega
            · have hmn : min k (nx + 1) = nx + 1 := by omega
              rw [hmn] at hU
              have HMM := hid (show min (k + 1) (nx + 1) = nx + 1 by omega)
              have HU := hid hU
              rw [show decide (k ≤ nx) = false from by simp [hkn]] at HM2
              rw [if_neg hkn] at HG2
              clear hU hB hx hmn hkn
              go_wp2_with fail
              refine (HM2.out).mono ?_
              rintro e w5 ⟨v5, F5, rfl, o5, n5, x5⟩
              obtain ⟨A5, c5, e5, _⟩ := o5.form
              subst e5
              clear o5 n5
              go_wp2_with fail
              refine (HG2.out _ x5).mono ?_
              rintro e w6 ⟨rfl, x6⟩
              have HX6 := hid (HX.out.trans (x5.trans x6))
              have HB6 := hid ((HB.out.ext x5).ext x6)
              have HBR6 := hid ((HBR.out.ext x5).ext x6)
              clear x5 x6 HM2 HG2 HB HX
              go_wp2
              go_roundw
              case rel => exact ⟨k + 1, U, by omega, by go_num, by rw [HMM.out]; exact HU.out, HB6.out, HBR6.out, HX6.out⟩
              case measure => simp [intOf]; omega
          · have hkl2 : k = l.length + 1 := by omega
            have hmn : min k (nx + 1) = nx + 1 := by omega
            rw [hmn] at hU
            have HB := hid hB
            have HS9 := hid (show mvOut m cs l (i + 1) = U from by rw [HS.out, hU])
            clear hU hB hmn
            subst hkl2
            go_wp2
            go_roundw
            case rel => exact ⟨i + 1, by omega, by go_num, by rw [HS9.out]; exact HB.out, HBR.out, hx⟩
            case measure => simp [intOf]; omega
      · have hil : i = l.length := by omega
        subst hil
        obtain ⟨U, hU⟩ : ∃ U, U = mvOut m cs l l.length := ⟨_, rfl⟩
        rw [← hU] at hB
        obtain ⟨⟨c0, c1, c2⟩, _⟩ := hB.c3
        have bR := HBR.out
        have hne : g8 ≠ gR := by have := HG8.out; have := HGR.out; omega
        have hgw : w.heap.size ≤ gR := by have := HGR.out; omega
        obtain ⟨⟨a0, a1⟩, ⟨a2, a3⟩, ⟨a4, a5⟩, b9⟩ := bR.store3 (.int .i64 U.1) (.int .i64 U.2.1) (.int .i64 U.2.2)
        have HB9 := hid b9
        have HX9 := hid (((hx.setCell (p := ⟨gR, 0, none⟩) hgw (.int .i64 U.1)).setCell (p := ⟨gR, 1, none⟩) hgw (.int .i64 U.2.1)).setCell (p := ⟨gR, 2, none⟩) hgw (.int .i64 U.2.2))
        have HCS := hid (show ∀ W : World, Agree wr W gR → W.cell? ⟨g8, 0, none⟩ = some (.int .i64 U.1) ∧ W.cell? ⟨g8, 1, none⟩ = some (.int .i64 U.2.1) ∧ W.cell? ⟨g8, 2, none⟩ = some (.int .i64 U.2.2) from fun W y => ⟨y.cell hne c0, y.cell hne c1, y.cell hne c2⟩)
        have HU := hid hU
        clear hB hx bR b9 hU hne hgw
        go_wp2_with fail
        go_region_held3 (fun w' => w'.cell? ⟨g8, 0, none⟩ = some (.int .i64 U.1) ∧ w'.cell? ⟨g8, 1, none⟩ = some (.int .i64 U.2.1) ∧ w'.cell? ⟨g8, 2, none⟩ = some (.int .i64 U.2.2)) (first | exact HCS.out _ (fun _ _ => rfl) | exact HCS.out _ (Agree.set (Agree.set (Agree.set (fun _ _ => rfl))))) (fail)
        all_goals
          have b10 := HB9.out.ext (Ext.refl _).drew
          obtain ⟨r0, r1, r2⟩ := b10.c3.1
          have HX10 := hid HX9.out.drew
          go_wp2_with fail
          refine bodyPost_ret (v := .tuple #[.agg #[.int .i64 U.1, .int .i64 U.2.1, .int .i64 U.2.2], .bool (decide (0 < U.2.2))]) (by simp [results, Tryz.results101, go_sem, r0, r1, r2]) rfl ?_
          exact ⟨by rw [← HU.out], HX10.out⟩
end Go.Proofs.YtidchfncfcckiaaGreat

namespace Go.Proofs.YtidchfncfcckiaaGreat
open Go.RowKit

set_option maxHeartbeats 4000000 in
set_option maxRecDepth 20000 in
theorem spec_GreedyPacking (v : Value) (m : List (List Int)) (w : World) (h : Sl (slR intR) w v m) (hm : WM m) :
    Calls Tryz.prog 53 #[v] w fun e w2 => ∃ v2 F, e = .returned v2 ∧ OwnSl triangleO w2 v2 (greedyL m) F ∧ NewF w F ∧ Ext w w2 := by
  have HBT := hid (fun (W : World) (y : Ext w W) => spec_BadTriangles v m W (h.mono y) hm)
  obtain ⟨A, cap, rfl, hm1⟩ := h.form
  have HM := hid hm
  have HBL := hid (badL_len hm.n8)
  have HT := hid (fun (p q : Nat) (hp : p < m.length) (hq : q < m.length) => mat_cells h hm hp hq)
  have h8 := hm.n8
  clear hm h
  go_enter Tryz.func53, Tryz.ntmps53
  go_wp2_with fail
  have HL0 := hid (Bld.lit (R := triangleO) w (Nat.le_refl _) 91)
  refine (HBT.out _ ((Ext.refl w).alloc _)).mono ?_
  rintro e wB ⟨vB, FB, rfl, oB, nB, xB⟩
  obtain ⟨AB, cB', eB, _⟩ := oB.form
  subst eB
  have HXB := hid (((Ext.refl w).alloc (.cells #[] 91)).trans xB)
  have HOB := hid oB
  have HLB := hid (HL0.out.ext xB)
  have HNB := hid (show ∀ b ∈ FB, w.heap.size < b from fun b hb => by have := nB.2 b hb; rw [World.size_alloc] at this; omega)
  have HFBS := hid (show ∀ b ∈ FB, b < wB.heap.size from fun b hb => oB.lt b hb)
  obtain ⟨BT, hBT⟩ : ∃ BT, BT = badL m := ⟨_, rfl⟩
  have HBTE := hid hBT
  rw [← hBT] at HOB HBL ⊢
  have HG := hid (show greedyL m = BT.foldl (grSt m) [] from by rw [hBT]; rfl)
  clear oB nB xB HL0 hBT
  go_wp2_with fail
  go_loopw [3, 5] (fun t i wr => ∃ k : Nat, k ≤ BT.length ∧ i = .int .i64 k ∧ Bld triangleO wr w.heap.size 91 t ((BT.take k).foldl (grSt m) []) [] ∧ (∀ b ∈ FB, t.ownBlock ≠ some b) ∧ OwnSl triangleO wr (.slice AB BT.length cB') BT FB ∧ wB.heap.size ≤ wr.heap.size ∧ Ext w wr) (fun _ i _ => BT.length - (intOf i).toNat)
  case atStart => exact ⟨0, Nat.zero_le _, rfl, HLB.out, (fun b hb e => by have h9 := HNB.out b hb; have h8 : w.heap.size = b := (by simpa [Value.ownBlock] using e); omega), HOB.out, Nat.le_refl _, HXB.out⟩
  case round =>
    obtain ⟨k, hk, rfl, hB, hD, hO, hsz, hx⟩ := hrel
    by_cases hlt : k < BT.length
    · obtain ⟨bT, oT, eT, i0, t0, t1, t2, t3⟩ := hO.sl.triangle hlt
      subst eT
      have hmem : BT[k] ∈ badL m := by rw [← HBTE.out]; exact List.getElem_mem hlt
      obtain ⟨a, b, c, hab, hbc, hc, hbad, hT⟩ := tA_mem m.length (Nat.le_refl _) _ hmem
      have ha : a < m.length := by omega
      have hb : b < m.length := by omega
      obtain ⟨hpk, hpl⟩ := greedy_to HM.out k
      have hbl9 : BT.length ≤ 56 := HBL.out
      rw [← HBTE.out] at hpk hpl
      have HGR := hid (grSt_take (m := m) hlt)
      rw [hT] at t0 t1 t2 t3 HGR
      obtain ⟨out, hout⟩ : ∃ o, o = (BT.take k).foldl (grSt m) [] := ⟨_, rfl⟩
      rw [← hout] at hB hpk hpl HGR
      have f1 := hpk.fit a b hab hb
      have f2 := hpk.fit a c (by omega) hc
      have f3 := hpk.fit b c hbc hc
      have g1 := ab_bd HM.out ha hb
      have g2 := ab_bd HM.out ha hc
      have g3 := ab_bd HM.out hb hc
      have HGS := hid (show grSt m out (mkT m a b c) = if 0 < grW m out (mkT m a b c) then out ++ [{ mkT m a b c with weight := grW m out (mkT m a b c) }] else out from rfl)
      have HGW := hid (show grW m out (mkT m a b c) = min3 (ab (ent m a b) - usedT out a b) (ab (ent m a c) - usedT out a c) (ab (ent m b c) - usedT out b c) from rfl)
      have HMKE := hid (show (mkT m a b c).a = (a : Int) ∧ (mkT m a b c).b = (b : Int) ∧ (mkT m a b c).c = (c : Int) from ⟨rfl, rfl, rfl⟩)
      have hbd1 := HM.out.bd a b ha hb
      have hbd2 := HM.out.bd a c ha hc
      have hbd3 := HM.out.bd b c hb hc
      obtain ⟨bm, om, ba, oa, ca, eA, m1⟩ := HT.out a b ha hb
      subst eA
      obtain ⟨bm2, om2, ba2, oa2, ca2, eA, m2⟩ := HT.out a c ha hc
      injection eA with e9
      injection e9 with e8 e7 q3
      clear q3
      subst e8; subst e7
      obtain ⟨bm3, om3, bb, ob, cb, eA, m3⟩ := HT.out b c hb hc
      injection eA with e9
      injection e9 with e8 e7 q3
      clear q3
      subst e8; subst e7
      have k1 := (m1 w (Ext.refl _)).1
      have k3 := (m2 w (Ext.refl _)).1
      rw [k1] at k3
      injection k3 with k3
      injection k3 with k3 q1 q2
      injection k3 with k3
      injection k3 with k3 k7 q3
      subst k3; subst k7
      obtain ⟨w0, hw0⟩ : ∃ x, x = (mkT m a b c).weight := ⟨_, rfl⟩
      rw [HMKE.out.1] at t0
      rw [HMKE.out.2.1] at t1
      rw [HMKE.out.2.2] at t2
      rw [← hw0] at t3
      have HTRI := hid (show ∀ W, Ext wr W → Sl triangleR W _ out from fun W y => hB.sl.mono y)
      obtain ⟨A3, c3, e3, _⟩ := hB.sl.form
      subst e3
      have HU := hid (fun (x y : Nat) (W : World) (e : Ext wr W) => spec_l21Used _ out x y W (HTRI.out W e) (fun t ht => (hpk.tri t ht).2) (by omega))
      obtain ⟨x, hxe⟩ : ∃ x, x = ent m a b := ⟨_, rfl⟩
      obtain ⟨y, hye⟩ : ∃ x, x = ent m a c := ⟨_, rfl⟩
      obtain ⟨z, hze⟩ : ∃ x, x = ent m b c := ⟨_, rfl⟩
      rw [← hxe] at m1 hbd1 HGW f1 g1
      rw [← hye] at m2 hbd2 HGW f2 g2
      rw [← hze] at m3 hbd3 HGW f3 g3
      have HA1 := hid (fun (W : World) => spec_l21Size x W hbd1)
      have HA2 := hid (fun (W : World) => spec_l21Size y W hbd2)
      have HA3 := hid (fun (W : World) => spec_l21Size z W hbd3)
      obtain ⟨X, hX⟩ : ∃ X, X = ab x := ⟨_, rfl⟩
      obtain ⟨Y, hY⟩ : ∃ X, X = ab y := ⟨_, rfl⟩
      obtain ⟨Z, hZ⟩ : ∃ X, X = ab z := ⟨_, rfl⟩
      rw [← hX] at HA1 HGW f1 g1
      rw [← hY] at HA2 HGW f2 g2
      rw [← hZ] at HA3 HGW f3 g3
      obtain ⟨W1, hW1⟩ : ∃ W, W = wr.alloc (.cells #[.int .i64 (a : Int), .int .i64 (b : Int), .int .i64 (c : Int), .int .i64 w0] 91) := ⟨_, rfl⟩
      have x1 : Ext wr W1 := by rw [hW1]; exact (Ext.refl _).alloc _
      have b1 : Blk W1 wr.heap.size 91 [.int .i64 (a : Int), .int .i64 (b : Int), .int .i64 (c : Int), .int .i64 w0] := by rw [hW1]; exact Blk.new wr 91 #[.int .i64 (a : Int), .int .i64 (b : Int), .int .i64 (c : Int), .int .i64 w0]
      have y0 : ∀ z : ExtOf W1, z.1.cell? ⟨wr.heap.size, 0, none⟩ = some (.int .i64 (a : Int)) := fun z => (b1.ext z.2).cells.1 0
      have y1 : ∀ z : ExtOf W1, z.1.cell? ⟨wr.heap.size, 1, none⟩ = some (.int .i64 (b : Int)) := fun z => (b1.ext z.2).cells.1 1
      have y2 : ∀ z : ExtOf W1, z.1.cell? ⟨wr.heap.size, 2, none⟩ = some (.int .i64 (c : Int)) := fun z => (b1.ext z.2).cells.1 2
      have y3 := fun (z : ExtOf W1) => (m1 z.1 ((hx.trans x1).trans z.2)).1
      have y4 := fun (z : ExtOf W1) => (m1 z.1 ((hx.trans x1).trans z.2)).2
      have y5 := fun (z : ExtOf W1) => (m2 z.1 ((hx.trans x1).trans z.2)).2
      have y6 := fun (z : ExtOf W1) => (m3 z.1 ((hx.trans x1).trans z.2)).1
      have y7 := fun (z : ExtOf W1) => (m3 z.1 ((hx.trans x1).trans z.2)).2
      have HU1 := hid (fun (z : ExtOf W1) => HU.out a b z.1 (x1.trans z.2))
      have HU2 := hid (fun (z : ExtOf W1) => HU.out a c z.1 (x1.trans z.2))
      have HU3 := hid (fun (z : ExtOf W1) => HU.out b c z.1 (x1.trans z.2))
      obtain ⟨u1, hu1⟩ : ∃ u, u = usedT out a b := ⟨_, rfl⟩
      obtain ⟨u2, hu2⟩ : ∃ u, u = usedT out a c := ⟨_, rfl⟩
      obtain ⟨u3, hu3⟩ : ∃ u, u = usedT out b c := ⟨_, rfl⟩
      rw [← hu1] at HU1 HGW f1
      rw [← hu2] at HU2 HGW f2
      rw [← hu3] at HU3 HGW f3
      have HB1 := hid b1
      have HW1 := hid hW1
      have HBO := hid hB
      have HOO := hid hO
      have HXX := hid (And.intro hx (And.intro x1 hsz))
      have HD := hid hD
      have HOL := hid (show out.length + 1 ≤ 1099511627776 by omega)
      have HABC := hid (show I64 (a : Int) ∧ I64 (b : Int) ∧ I64 (c : Int) from by unfold I64; omega)
      have han : (a : Int) < (m.length : Int) := by omega
      have hbn : (b : Int) < (m.length : Int) := by omega
      have hcn : (c : Int) < (m.length : Int) := by omega
      have HOUT := hid hout
      clear hu1 hu2 hu3 hX hY hZ hxe hye hze hw0 hout hpk hpl hT hmem hbad k1 q1 q2 q3 m1 m2 m3 hbd1 hbd2 hbd3 hB hO hx hD hW1 b1 x1 i0
      go_wp2_with fail
      rw [← HW1.out]
      refine wp_region_ext (by kernel_rfl) (by kernel_rfl) ?_
      repeat (go_big_quiet_step (((first | (go_at_call 105; first | with_reducible exact quiet_same (HA1.out _) | with_reducible exact quiet_same (HA2.out _) | with_reducible exact quiet_same (HA3.out _)) | (go_at_call 106; first | with_reducible exact quiet_ext (HU1.out _) | with_reducible exact quiet_ext (HU2.out _) | with_reducible exact quiet_ext (HU3.out _))))))
      refine wpQuiet_nil ?_
      rintro w5 ⟨⟨_, x5⟩, rfl⟩
      generalize hV : (if Z - u3 < (if Y - u2 < X - u1 then Y - u2 else X - u1) then Z - u3 else (if Y - u2 < X - u1 then Y - u2 else X - u1)) = V
      have HVV := hid (show grW m out (mkT m a b c) = V from by rw [HGW.out, ← hV]; rfl)
      have hvb : -1000 ≤ V ∧ V ≤ 1000 := by rw [← hV]; split <;> split <;> omega
      have HB5 := hid (HB1.out.ext x5)
      have HX5 := hid (HXX.out.2.1.trans x5)
      have HBO5 := hid (HBO.out.ext HX5.out)
      have HOO5 := hid (HOO.out.ext HX5.out)
      clear hV y0 y1 y2 y3 y4 y5 y6 y7 x5 f1 f2 f3 g1 g2 g3
      by_cases hv : 0 < V
      · have hvd : decide (0 < V) = true := by simp [hv]
        have HE := hid (show (BT.take (k + 1)).foldl (grSt m) [] = out ++ [⟨a, b, c, V⟩] from by rw [HGR.out, HGS.out, HVV.out, if_pos hv]; rfl)
        obtain ⟨⟨a0, a1, a2, a3⟩, af⟩ := HB5.out.c4
        have b9 : Blk (w5.setCell ⟨wr.heap.size, 3, none⟩ (.int .i64 V)) wr.heap.size 91 [.int .i64 (a : Int), .int .i64 (b : Int), .int .i64 (c : Int), .int .i64 V] := Blk.store (done := [.int .i64 (a : Int), .int .i64 (b : Int), .int .i64 (c : Int)]) HB5.out rfl (.int .i64 V)
        have a4 := af 3
        obtain ⟨⟨q0, q1, q2, q3⟩, _⟩ := b9.c4
        have HI := hid (show I64 V from by unfold I64; omega)
        have HB9 := hid (show Bld triangleO (w5.setCell ⟨wr.heap.size, 3, none⟩ (.int .i64 V)) w.heap.size 91 _ out [] from HBO5.out.stayF fun b hb => keep_setCell (fun e => by have := (HBO.out.lt.2 b hb).1; dsimp only at e; omega))
        have HO9 := hid (show OwnSl triangleO (w5.setCell ⟨wr.heap.size, 3, none⟩ (.int .i64 V)) _ BT FB from HOO5.out.setCell (fun hm => by have := HOO.out.lt _ hm; dsimp only at this; omega) _)
        have HX9 := hid (show Ext w (w5.setCell ⟨wr.heap.size, 3, none⟩ (.int .i64 V)) from (HXX.out.1.trans HX5.out).setCell HXX.out.1.size _)
        have HS9 := hid (show wB.heap.size ≤ (w5.setCell ⟨wr.heap.size, 3, none⟩ (.int .i64 V)).heap.size from by rw [World.size_setCell]; exact Nat.le_trans HXX.out.2.2 HX5.out.size)
        clear hv b9 af a0 a1 a2
        go_wp2_with (at_builtin; refine wpList_app1h (R := triangleO) elemTri (by decide) rfl _ _ rfl HB9.out rfl _ 1 rfl (by simp) (one_tri _ _ _ _) (y := ⟨a, b, c, V⟩) ⟨⟨rfl, ⟨HABC.out.1, HABC.out.2.1, HABC.out.2.2, HI.out⟩⟩, rfl⟩ fresh_nil HOL.out (by decide) HX9.out.size ?_; intro v7 w7 hB7 hE7 hA7)
        go_roundw
        case rel => exact ⟨k + 1, by omega, by go_num, by rw [HE.out]; exact hB7, (fun b hb e => (hA7.own b e).elim (fun e2 => HD.out b hb e2) fun e2 => by have := HFBS.out b hb; have := HS9.out; omega), HO9.out.keep (fun b hb => hA7.keep b (HO9.out.lt b hb) (HD.out b hb)), Nat.le_trans HS9.out hA7.size, hE7 w (Nat.le_refl _) HX9.out⟩
        case measure => simp [intOf]; omega
      · have hvd : decide (0 < V) = false := by simp [hv]
        have HE := hid (show (BT.take (k + 1)).foldl (grSt m) [] = out from by rw [HGR.out, HGS.out, HVV.out, if_neg hv])
        clear hv
        go_wp2
        go_roundw
        case rel => exact ⟨k + 1, by omega, by go_num, by rw [HE.out]; exact HBO5.out, HD.out, HOO5.out, Nat.le_trans HXX.out.2.2 HX5.out.size, HXX.out.1.trans HX5.out⟩
        case measure => simp [intOf]; omega
    · have hkl : k = BT.length := by omega
      subst hkl
      rw [List.take_length, ← HG.out] at hB
      obtain ⟨F', q1, q2, q3⟩ := hB.done
      clear hB
      go_wp2
      go_ret
      exact ⟨_, F', rfl, q1, ⟨q2, q3⟩, hx⟩
end Go.Proofs.YtidchfncfcckiaaGreat

namespace Go.Proofs.YtidchfncfcckiaaGreat
open Go.RowKit

set_option maxHeartbeats 2000000 in
set_option maxRecDepth 20000 in
theorem spec_ImprovePartition (v u z : Value) (m : List (List Int)) (cs : List Constraint) (l : List Int) (w : World) (h : Sl (slR intR) w v m) (h2 : Sl constraintR w u cs) (h3 : Sl intR w z l) (hm : WM m) (hp : partB l = true) (hl : l.length = m.length) :
    Calls Tryz.prog 49 #[v, u, z] w fun e w2 => ∃ v2 F k, e = .returned (.tuple #[v2, .int .i64 k]) ∧ OwnSl intO w2 v2 (impP m cs l) F ∧ NewF w F ∧ Ext w w2 := by
  have h8 := hm.n8
  have HL3 := hid h3
  have HSZ := hid (show l.length ≤ 1099511627776 by omega)
  obtain ⟨A, cap, rfl, hm1⟩ := h.form
  obtain ⟨B, cap2, rfl, hm2⟩ := h2.form
  obtain ⟨C, cap3, rfl, hm3⟩ := h3.form
  have HBM := hid (fun (W : World) (y : Ext w W) (z : Value) (q : List Int) (k : Sl intR W z q) (hq : partB q = true) (hl : q.length = m.length) => spec_BestMove _ _ z m cs q W (h.mono y) (h2.mono y) k hm hq hl)
  have HP := hid (And.intro hp hl)
  have HM8 := hid h8
  clear h h2 h3 hm hp hl h8
  go_enter Tryz.func49, Tryz.ntmps49
  go_wp2_with (at_builtin; refine wpList_appn elemInt rfl _ _ rfl (Bld.lit (R := intO) w (Nat.le_refl _) 3) rfl rfl (HL3.out.mono ((Ext.refl w).alloc _)) (by simp; exact HSZ.out) (by simp) ?_; intro v9 w9 hB9 hE9; rw [List.nil_append] at hB9)
  obtain ⟨F1, o1, n1, f1⟩ := hB9.done
  have n1 : NewF w F1 := ⟨n1, f1⟩
  have x1 := hE9 w (Nat.le_refl _) ((Ext.refl w).alloc _)
  have HO1 := hid o1
  clear o1 hB9 hE9 f1
  go_loopw [8, 9] (fun t i wr => ∃ (k : Nat) (q : List Int) (F : List Nat), k ≤ 100 ∧ i = .int .i64 k ∧ impN m cs (100 - k) q = impP m cs l ∧ partB q = true ∧ q.length = m.length ∧ OwnSl intO wr t q F ∧ NewF w F ∧ Ext w wr) (fun _ i _ => 100 - (intOf i).toNat)
  case atStart => exact ⟨0, l, F1, Nat.zero_le _, rfl, rfl, HP.out.1, HP.out.2, HO1.out, n1, x1⟩
  case round =>
    clear n1 x1
    obtain ⟨k, q, F, hk, rfl, hi, hp, hl, hO, hN, hx⟩ := hrel
    obtain ⟨A1, c1, e1, _⟩ := hO.form
    subst e1
    have HO := hid hO
    have HQ := hid (And.intro hp hl)
    have HB2 := hid (HBM.out wr hx _ q hO.sl hp hl)
    have hok := mvP_ok m cs q
    have hcost := hok.2.1
    have HMV := hid (fun (W : World) (y : Ext wr W) (i b : Nat) (hi : i < q.length) (hb : b ≤ 8) => spec_MoveItem _ q i b W (hO.sl.mono y) hp hi hb)
    have HI := hid hi
    clear hO hi hp hl
    by_cases hlt : k < 100
    · have HS := hid (show impN m cs (100 - k) q = if 0 < (mvP m cs q).2.2 then impN m cs (100 - (k + 1)) (movedP q (mvP m cs q).1 (mvP m cs q).2.1) else q from by
        rw [show 100 - k = (100 - (k + 1)) + 1 by omega]; rfl)
      have hnxb := RG.next_le (l := q) (k := q.length) (by rw [List.take_length]; exact (partB_iff.1 HQ.out.1).1) (Nat.le_refl _)
      rw [List.take_length] at hnxb
      have HNX := hid (show (nextOf q).toNat ≤ 8 by have := (partB_iff.1 HQ.out.1).2.2; omega)
      obtain ⟨T, hT⟩ : ∃ T, T = mvP m cs q := ⟨_, rfl⟩
      rw [← hT] at HB2 hok HS
      have HOK := hid hok
      clear hnxb hok hcost
      by_cases hg : 0 < T.2.2
      · have hgd : decide (0 < T.2.2) = true := by simp [hg]
        have hT2 : T.1 < q.length ∧ T.2.1 ≤ 8 := by
          rcases HOK.out.2.2 with e | ⟨_, e1, e2, _⟩
          · rw [e] at hg; exact absurd hg (Int.lt_irrefl _)
          · exact ⟨e1, Nat.le_trans e2 HNX.out⟩
        have HS2 := hid (show impN m cs (100 - k) q = impN m cs (100 - (k + 1)) (movedP q T.1 T.2.1) from by rw [HS.out, if_pos hg])
        have HT2 := hid hT2
        have HMIP := hid (show miP q T.1 T.2.1 = movedP q T.1 T.2.1 from by
          unfold miP
          rcases HOK.out.2.2 with e | ⟨_, e1, e2, _⟩
          · rw [e] at hg; exact absurd hg (Int.lt_irrefl _)
          · rw [if_pos e2])
        rw [hgd] at HB2
        clear hg hT hgd hT2
        go_wp2_with fail
        refine (HB2.out).mono ?_
        rintro e w2 ⟨rfl, x2⟩
        have x3 : Ext wr (w2.alloc (.cells #[.int .i64 (T.1 : Int), .int .i64 (T.2.1 : Int), .int .i64 T.2.2] 109)) := x2.alloc _
        have HM3 := hid (HMV.out _ x3 T.1 T.2.1 HT2.out.1 HT2.out.2)
        rw [HMIP.out] at HM3
        clear x2
        go_wp2_with fail
        refine (HM3.out).mono ?_
        rintro e w4 ⟨v4, F4, rfl, o4, n4, x4⟩
        have HR := hid (show impN m cs (100 - (k + 1)) (movedP q T.1 T.2.1) = impP m cs l ∧ partB (movedP q T.1 T.2.1) = true ∧ (movedP q T.1 T.2.1).length = m.length from ⟨by rw [← HS2.out]; exact HI.out, movedP_part HQ.out.1 _ _, by rw [(movedP_facts q _ _).2]; exact HQ.out.2⟩)
        have HN4 := hid (n4.ext (hx.trans x3))
        have HX4 := hid (hx.trans (x3.trans x4))
        obtain ⟨A4, c4, e4, _⟩ := o4.form
        subst e4
        have HO4 := hid o4
        clear o4 n4 x3 x4 hx hN
        go_wp2
        go_roundw
        case rel => exact ⟨k + 1, movedP q T.1 T.2.1, F4, by omega, by go_num, HR.out.1, HR.out.2.1, HR.out.2.2, HO4.out, HN4.out, HX4.out⟩
        case measure => simp [intOf]; omega
      · have hgd : decide (0 < T.2.2) = false := by simp; omega
        have HS2 := hid (show impP m cs l = q from by rw [← HI.out, HS.out, if_neg hg])
        rw [hgd] at HB2
        clear hg hT hgd
        go_wp2_with fail
        refine (HB2.out).mono ?_
        rintro e w2 ⟨rfl, x2⟩
        have x3 : Ext wr (w2.alloc (.cells #[.int .i64 (T.1 : Int), .int .i64 (T.2.1 : Int), .int .i64 T.2.2] 109)) := x2.alloc _
        have HX3 := hid x3
        clear x2 x3
        go_wp2_with fail
        refine bodyPost_ret (v := .tuple #[.slice A1 q.length c1, .int .i64 k]) (by simp [results, Tryz.results49, go_sem]) rfl ?_
        exact ⟨_, F, k, rfl, by rw [HS2.out]; exact HO.out.ext HX3.out, hN, hx.trans HX3.out⟩
    · have hk2 : k = 100 := by omega
      subst hk2
      have HS2 := hid (show impP m cs l = q from by rw [← HI.out]; rfl)
      clear hok hcost HB2 HMV
      go_wp2_with fail
      refine bodyPost_ret (v := .tuple #[.slice A1 q.length c1, .int .i64 100]) (by simp [results, Tryz.results49, go_sem]) rfl ?_
      exact ⟨_, F, 100, rfl, by rw [HS2.out]; exact HO.out, hN, hx⟩
end Go.Proofs.YtidchfncfcckiaaGreat

namespace Go.Proofs.YtidchfncfcckiaaGreat
open Go.RowKit

theorem bpN_part {m : List (List Int)} (hm : WM m) : partB (bpN m m.length).1 = true ∧ (bpN m m.length).1.length = m.length := by
  obtain ⟨h1, h2, _⟩ := bpN_facts m m.length hm.n1
  exact ⟨partB_iff.2 ⟨h1, by rw [h2]; exact hm.n1, by rw [h2]; exact hm.n8⟩, h2⟩
set_option maxHeartbeats 16000000 in
set_option maxRecDepth 20000 in
theorem spec_ClusterItems (v u : Value) (m : List (List Int)) (l : List Constraint) (w : World) (h : Sl (slR intR) w v m) (k : Sl constraintR w u l) :
    Calls Tryz.prog 8 #[v, u] w fun e w2 => ∃ v2 F, e = .returned (.tuple #[.agg #[v2, .int .i64 (clusterP m l).1.cost, .bool (clusterP m l).1.exact, .int .i64 (clusterP m l).1.gap], .bool (clusterP m l).2]) ∧ OwnSl intO w2 v2 (clusterP m l).1.labels F ∧ NewF w F ∧ Ext w w2 := by
  have xb : Ext w (w.alloc (.cells #[.slice none 0 0, .int .i64 0, .bool false, .int .i64 0] 30)) := (Ext.refl _).alloc _
  have HA := hid (spec_IsWeightMatrix v m _ (h.mono xb))
  have HIC := hid (fun (h18 : 1 ≤ m.length ∧ m.length ≤ 8) (W : World) (y : Ext w W) => spec_IsConsistent m.length u l W (k.mono y) h18)
  obtain ⟨A, cap, rfl, hm1⟩ := h.form
  obtain ⟨B, cap2, rfl, hm2⟩ := k.form
  have HXB := hid xb
  cases hw : wmB m with
  | false =>
    rw [hw] at HA
    have HR := hid (clusterP_no (m := m) (l := l) (by rw [hw]; rfl))
    rw [HR.out]
    clear hw h k xb
    go_enter Tryz.func8, Tryz.ntmps8
    go_wp2_with fail
    refine (HA.out).mono ?_
    rintro e w2 ⟨rfl, x2⟩
    have bR := (Blk.new w 30 #[.slice none 0 0, .int .i64 0, .bool false, .int .i64 0]).ext x2
    obtain ⟨⟨a0, a1⟩, ⟨a2, a3⟩, ⟨a4, a5⟩, ⟨a6, a7⟩, b9⟩ := bR.store4 (.slice none 0 0) (.int .i64 0) (.bool false) (.int .i64 0)
    go_wp2
    obtain ⟨⟨r0, r1, r2, r3⟩, _⟩ := b9.c4
    refine bodyPost_ret (v := .tuple #[.agg #[.slice none 0 0, .int .i64 0, .bool false, .int .i64 0], .bool false]) (by simp [results, Tryz.results8, go_sem, r0, r1, r2, r3]) rfl ?_
    exact ⟨_, [], rfl, .inl ⟨rfl, rfl, none, 0, rfl, Nat.zero_le _⟩, .nil _, ((((HXB.out.trans x2).setCell (Nat.le_refl _) _).setCell (Nat.le_refl _) _).setCell (Nat.le_refl _) _).setCell (Nat.le_refl _) _⟩
  | true =>
  rw [hw] at HA
  have hm := wmB_iff.1 hw
  have h1 := hm.n1
  have h8 := hm.n8
  have HC := hid (fun (W : World) (y : Ext w W) => HIC.out ⟨h1, h8⟩ W y)
  clear HIC
  cases hcs : consistB m.length l with
  | false =>
    rw [hcs] at HC
    have HR := hid (clusterP_no (m := m) (l := l) (by rw [hcs, Bool.and_false]))
    rw [HR.out]
    clear hcs hw h k xb hm h1 h8
    go_enter Tryz.func8, Tryz.ntmps8
    go_wp2_with fail
    refine (HA.out).mono ?_
    rintro e w1 ⟨rfl, x1⟩
    go_wp2_with fail
    refine (HC.out _ (HXB.out.trans x1)).mono ?_
    rintro e w2 ⟨rfl, x2⟩
    have x2 := x1.trans x2
    have bR := (Blk.new w 30 #[.slice none 0 0, .int .i64 0, .bool false, .int .i64 0]).ext x2
    obtain ⟨⟨a0, a1⟩, ⟨a2, a3⟩, ⟨a4, a5⟩, ⟨a6, a7⟩, b9⟩ := bR.store4 (.slice none 0 0) (.int .i64 0) (.bool false) (.int .i64 0)
    go_wp2
    obtain ⟨⟨r0, r1, r2, r3⟩, _⟩ := b9.c4
    refine bodyPost_ret (v := .tuple #[.agg #[.slice none 0 0, .int .i64 0, .bool false, .int .i64 0], .bool false]) (by simp [results, Tryz.results8, go_sem, r0, r1, r2, r3]) rfl ?_
    exact ⟨_, [], rfl, .inl ⟨rfl, rfl, none, 0, rfl, Nat.zero_le _⟩, .nil _, ((((HXB.out.trans x2).setCell (Nat.le_refl _) _).setCell (Nat.le_refl _) _).setCell (Nat.le_refl _) _).setCell (Nat.le_refl _) _⟩
  | true =>
    rw [hcs] at HC
    have HR := hid (clusterP_yes (m := m) (l := l) (by rw [hw, hcs]; rfl))
    rw [HR.out]
    have ha : areConB m.length l = true := by have := hcs; unfold consistB at this; rw [Bool.and_eq_true] at this; exact this.1
    have hl10 := (areCon_iff.1 ha).2.2.1
    have HM := hid hm
    have HCS := hid hcs
    have HH := hid h
    have HK := hid k
    obtain ⟨f1, f2, f3⟩ := searchP_facts hw ha
    have HSF := hid (And.intro f1 f2)
    have HSP := hid (fun (W : World) (y : Ext w W) => spec_SearchParts _ _ m l W (h.mono y) (k.mono y))
    obtain ⟨i1, hi1, hz3, hz4, hz5⟩ := info_parts infoInt
    have hmk1 := run_mk (P := Tryz.prog) 28 3 i1 _ [.int .i64 0] 8 Tryz.underlying28 hi1 hz3 rfl hz4 hz5 m.length (by omega) (by omega)
    rw [flat_rep] at hmk1
    have HZI := hid (fun (W : World) => zeros_i W m.length 3 (by unfold maxLen; omega))
    obtain ⟨Z, hZ⟩ : ∃ Z, Z = (List.replicate m.length (Value.int .i64 0)).toArray := ⟨_, rfl⟩
    rw [← hZ] at hmk1 HZI
    have HL10 := hid hl10
    have HN := hid (And.intro h1 h8)
    clear h k xb hi1 hz3 hz4 hz5 hZ hw hcs hm ha f1 f2 f3 hl10 h1 h8
    go_enter Tryz.func8, Tryz.ntmps8
    go_wp2_with fail
    refine (HA.out).mono ?_
    rintro e w1 ⟨rfl, x1⟩
    go_wp2_with fail
    refine (HC.out _ (HXB.out.trans x1)).mono ?_
    rintro e w2 ⟨rfl, x2⟩
    have x2 := x1.trans x2
    clear x1
    have HB4 := hid ((Blk.new w 30 #[.slice none 0 0, .int .i64 0, .bool false, .int .i64 0]).ext x2)
    have HX2 := hid (HXB.out.trans x2)
    have HSZ2 := hid (show w.heap.size < w2.heap.size from block_lt HB4.out)
    clear x2
    go_wp2_with fail
    refine (HSP.out w2 HX2.out).mono ?_
    rintro e w3 ⟨v3, F3, rfl, o3, n3, x3⟩
    have HBK := hid (spec_PartitionBlocks v3 _ w3 o3.sl HSF.out.1)
    have HX3 := hid x3
    clear o3 n3 x3
    go_wp2_with fail
    refine (HBK.out).mono ?_
    rintro e wB ⟨vB, FB, rfl, oB, nB, xB⟩
    have HP := hid (fun (j : Nat) (hj : j < (blocksP (searchP m l)).length) => part_of HM.out HCS.out hj)
    have HFIN := hid (And.intro (show labP m l = labN m l (blocksP (searchP m l)) (blocksP (searchP m l)).length from rfl) (show clExact m l = exactN (blocksP (searchP m l)) (blocksP (searchP m l)).length from rfl))
    obtain ⟨bs, hbs⟩ : ∃ bs, bs = blocksP (searchP m l) := ⟨_, rfl⟩
    rw [← hbs] at HP oB HFIN
    have HBSL := hid (show bs.length ≤ 8 from by
      have := blkN_len (partB_iff.1 HSF.out.1).1 (k := (searchP m l).length) (Nat.le_refl _)
      rw [hbs]; unfold blocksP; have := HSF.out.2; have := HN.out.2; omega)
    obtain ⟨AB, cB, eB, _⟩ := oB.form
    subst eB
    obtain ⟨wz, hwz⟩ : ∃ W, W = wB.alloc (.cells Z 3) := ⟨_, rfl⟩
    obtain ⟨wc, hwc⟩ : ∃ W, W = wz.alloc (.cells #[.slice none 0 0, .int .i64 0, .bool true, .int .i64 0] 30) := ⟨_, rfl⟩
    have xz : Ext wB wz := by rw [hwz]; exact (Ext.refl _).alloc _
    have xc : Ext wz wc := by rw [hwc]; exact (Ext.refl _).alloc _
    have sz : wz.heap.size = wB.heap.size + 1 := by rw [hwz]; simp
    have oL : OwnSl intO wz (.slice (some ⟨wB.heap.size, 0, none⟩) m.length m.length) (List.replicate m.length 0) [wB.heap.size] := by rw [hwz]; exact HZI.out wB
    have b6 : Blk wc (wB.heap.size + 1) 30 [.slice none 0 0, .int .i64 0, .bool true, .int .i64 0] := by
      have h9 := Blk.new wz 30 #[.slice none 0 0, .int .i64 0, .bool true, .int .i64 0]
      rw [sz] at h9
      rw [hwc]; exact h9
    have HOL := hid (oL.ext xc)
    have HB6 := hid b6
    have x23 : Ext w2 wB := HX3.out.trans xB
    have HXC := hid (HX2.out.trans (x23.trans (xz.trans xc)))
    have HB4C := hid (HB4.out.ext (x23.trans (xz.trans xc)))
    have HOB := hid (oB.ext (xz.trans xc))
    have HNB := hid (show FB.Nodup ∧ ∀ b ∈ FB, w.heap.size < b ∧ b < wB.heap.size from ⟨nB.1, fun b hb => by
      have h2 := nB.2 b hb
      have h3 := HX3.out.size
      have h4 := HSZ2.out
      exact ⟨by omega, oB.lt b hb⟩⟩)
    obtain ⟨gL, hgL⟩ : ∃ g, g = wB.heap.size := ⟨_, rfl⟩
    obtain ⟨g6, hg6⟩ : ∃ g, g = wB.heap.size + 1 := ⟨_, rfl⟩
    obtain ⟨g4, hg4⟩ : ∃ g, g = w.heap.size := ⟨_, rfl⟩
    have HGG := hid (show g4 < gL ∧ gL < g6 ∧ w.heap.size ≤ g4 ∧ g6 < wc.heap.size from by
      have := block_lt HB4.out
      have := block_lt b6
      have := x23.size
      omega)
    rw [← hg6] at HB6
    rw [← hgL] at HOL HNB
    rw [← hg4] at HB4C HNB
    have HGE := hid (And.intro hgL (And.intro hg6 hg4))
    have HWC := hid (show wc = (wB.alloc (.cells Z 3)).alloc (.cells #[.slice none 0 0, .int .i64 0, .bool true, .int .i64 0] 30) from by rw [hwc, hwz])
    clear hwz hwc xz xc sz oL b6 hgL hg6 hg4 x23 oB nB xB hbs
    go_wp2_with fail
    rw [← HWC.out]
    clear hmk1
    rw [← HGE.out.2.1, ← HGE.out.1, ← HGE.out.2.2]
    go_loopw [9] (fun i wr => ∃ j : Nat, j ≤ bs.length ∧ i = .int .i64 j ∧ OwnSl intO wr (.slice (some ⟨gL, 0, none⟩) m.length m.length) (labN m l bs j) [gL] ∧ Blk wr g6 30 [.slice none 0 0, .int .i64 0, .bool (exactN bs j), .int .i64 0] ∧ KeepB wc wr [gL, g6] ∧ Ext w wr) (fun i _ => bs.length - (intOf i).toNat)
    case atStart => exact ⟨0, Nat.zero_le _, rfl, HOL.out, HB6.out, KeepB.refl _ _, HXC.out⟩
    case round =>
      clear HOL HB6
      obtain ⟨j, hj, rfl, hO, hB6, hK, hx⟩ := hrel
      have hbs8 := HBSL.out
      by_cases hlt : j < bs.length
      · obtain ⟨gT, oT, cT, cc, Fr, eV, hgT, hsub, hnin, hN1, ⟨vr, ecc, orow⟩, hcl, hcell, hfr, q1, q2⟩ := HOB.out.elem HNB.out.1 hlt
        clear q1 q2 hfr hcl hnin
        subst ecc
        injection eV with e9 q1 q2
        clear q1 q2
        subst e9
        have hc0 : wc.cell? ⟨gT, oT + j, none⟩ = some vr := by
          have h9 : (slO intO).n = 1 := rfl
          simpa [h9] using hcell 0 (by rw [h9]; exact Nat.one_pos)
        rw [← getD_getElem (d := []) hlt] at orow
        obtain ⟨p1, p2, p3⟩ := HP.out j hlt
        have HLN := hid (show labN m l bs (j + 1) = labSt (bs.getD j []) (partP (subM m (bs.getD j [])) (restrC l (bs.getD j []))) j (labN m l bs j) (bs.getD j []).length from rfl)
        have HEX := hid (show exactN bs (j + 1) = (exactN bs j && decide ((bs.getD j []).length ≤ 6)) from rfl)
        obtain ⟨it, hit⟩ : ∃ it, it = bs.getD j [] := ⟨_, rfl⟩
        rw [← hit] at orow p1 p2 p3 HLN HEX
        obtain ⟨L, hL⟩ : ∃ L, L = labN m l bs j := ⟨_, rfl⟩
        have hLl : L.length = m.length := by rw [hL]; exact labN_len m l bs j
        rw [← hL] at HLN hO
        obtain ⟨A7, c7, e7, _⟩ := orow.form
        subst e7
        have hitl := p1.len
        have hgg := HGG.out
        have hFr : ∀ b ∈ Fr, b < wc.heap.size ∧ b ∉ [gL, g6] ∧ b ≠ gL := fun b hb => by
          have h2 := HNB.out.2 b (hsub b hb)
          refine ⟨by omega, ?_, by omega⟩
          simp only [List.mem_cons, List.not_mem_nil, or_false, not_or]
          omega
        have hgT2 : gT ∉ [gL, g6] := by
          have h2 := HNB.out.2 gT hgT
          simp only [List.mem_cons, List.not_mem_nil, or_false, not_or]
          omega
        have HGTL := hid (show gT ≠ gL from fun e => hgT2 (by rw [e]; simp))
        have HGT2 := hid hgT2
        have HC0 := hid hc0
        have cT0 := hK.cell hgT2 hc0
        have HCT := hid (fun (W : World) (y : Ext wr W) => y.cell cT0)
        have oRW := orow.keep (w2 := wr) fun b hb => hK.2 b (hFr b hb).1 (hFr b hb).2.1
        have HFR := hid hFr
        have HORW := hid oRW
        have HSM := hid (spec_SubMatrix _ _ m it wr (HH.out.mono hx) oRW.sl HM.out p1)
        have HI := hid p1
        have HP2 := hid p2
        have HLL := hid hLl
        have HO := hid hO
        have HB6W := hid hB6
        have HKW := hid hK
        have HXW := hid hx
        have HG6 := hid (show g6 < wr.heap.size ∧ gL < wr.heap.size from ⟨block_lt hB6, hO.lt gL (by simp)⟩)
        have HIL := hid (show it.length ≤ 8 from by have := HN.out.2; omega)
        have hcs3 : consistB (subM m it).length (restrC l it) = true := by rw [subM_len]; exact p3
        have HCS3 := hid hcs3
        obtain ⟨g1, g2, _, _⟩ := partP_facts p2 hcs3
        have HSL := hid (subM_len m it)
        rw [subM_len] at g2
        obtain ⟨PT, hPT⟩ : ∃ PT, PT = partP (subM m it) (restrC l it) := ⟨_, rfl⟩
        rw [← hPT] at g1 g2 HLN
        have HPT := hid hPT
        have HG1 := hid g1
        have HG2 := hid g2
        clear hc0 hcell hsub hgT hgT2 hFr orow oRW p1 p2 p3 hcs3 g1 g2 hLl hO hB6 hK hx hitl hgg hL hit hPT
        go_wp2_with fail
        refine (HSM.out).mono ?_
        rintro e w5 ⟨v5, F5, rfl, o5, n5, x5⟩
        have HRC := hid (spec_RestrictConstraints _ _ l it w5 (HK.out.mono (HXW.out.trans x5)) (HORW.out.ext x5).sl (by have := HL10.out; omega) (by have := HIL.out; omega))
        have c5 := HCT.out w5 x5
        obtain ⟨A5, cp5, e5, _⟩ := o5.form
        subst e5
        have HO5 := hid o5
        have HX5 := hid x5
        have HF5 := hid (show ∀ b ∈ F5, b ≠ g6 from fun b hb e => by have := n5.2 b hb; have := HG6.out; omega)
        clear o5 n5 x5 cT0
        go_wp2_with fail
        refine (HRC.out).mono ?_
        rintro e w6 ⟨v6, F6, rfl, o6, n6, x6⟩
        have HBP := hid (spec_BestPartition _ v6 _ _ w6 (HO5.out.ext x6).sl o6.sl HP2.out HCS3.out)
        have HO5 := hid (HO5.out.ext x6)
        have HO6 := hid o6
        have HF6 := hid (show ∀ b ∈ F6, b ≠ g6 from fun b hb e => by have := n6.2 b hb; have := HG6.out; have := HX5.out.size; omega)
        have HX6 := hid (HX5.out.trans x6)
        clear o6 n6 x6 c5
        go_wp2_with fail
        refine (HBP.out).mono ?_
        rintro e w7 ⟨v7, F7, rfl, o7, n7, x7⟩
        have HX7 := hid (HX6.out.trans x7)
        have cq := HCT.out w7 HX7.out
        by_cases h6 : it.length ≤ 6
        · have HE2 := hid (show exactN bs (j + 1) = exactN bs j from by rw [HEX.out, decide_eq_true h6, Bool.and_true])
          have hp : PT = (bestF (subM m it) (restrC l it)).1 := by rw [HPT.out]; unfold partP; rw [if_pos (by rw [HSL.out]; exact h6)]
          have h6d : decide (6 < (it.length : Int)) = false := by simp; omega
          have h6i : (it.length : Int) ≤ 6 := by omega
          rw [← hp] at o7
          obtain ⟨wq, hwq⟩ : ∃ W, W = w7 := ⟨_, rfl⟩
          rw [← hwq] at o7 cq HX7 ⊢
          have hfp : ∀ b ∈ F7, b ≠ gL := fun b hb e => by have := n7.2 b hb; have := HG6.out; have := HX6.out.size; omega
          have HCQ := hid cq
          have HXQ := hid (HXW.out.trans HX7.out)
          have HOQ := hid (HO.out.ext HX7.out)
          have HBQ := hid (HB6W.out.ext HX7.out)
          rw [← HE2.out] at HBQ
          have HORQ := hid (HORW.out.ext HX7.out)
          have HKQ := hid (HKW.out.ext HX7.out)
          obtain ⟨FP, hFP⟩ : ∃ F, F = F7 := ⟨_, rfl⟩
          obtain ⟨vP, hvP⟩ : ∃ z, z = v7 := ⟨_, rfl⟩
          rw [← hFP] at o7 hfp
          rw [← hvP] at o7 ⊢
          have oP := o7
          clear h6 hp hwq hFP hvP o7 n7 x7
          have HOP := hid oP
          have HFP := hid (show ∀ b ∈ FP, b ≠ gL from hfp)
          obtain ⟨AP, cP, eP, _⟩ := oP.form
          subst eP
          clear oP hfp
          go_wp2_with fail
          go_loopw [17] (fun t wr => ∃ i : Nat, i ≤ it.length ∧ t = .int .i64 i ∧ OwnSl intO wr (.slice (some ⟨gL, 0, none⟩) m.length m.length) (labSt it PT j L i) [gL] ∧ KeepB wq wr [gL] ∧ Ext w wr) (fun t _ => it.length - (intOf t).toNat)
          case atStart => exact ⟨0, Nat.zero_le _, rfl, HOQ.out, KeepB.refl _ _, HXQ.out⟩
          case round =>
            clear HOQ cq
            obtain ⟨i, hi, rfl, hO, hK, hx⟩ := hrel
            have cr := hK.cell (by rw [List.mem_singleton]; exact HGTL.out) HCQ.out
            by_cases hip : i < it.length
            · have hii : i < PT.length := by have := HG2.out; omega
              have hil8 := HIL.out
              have hpb := RG.bd8 HG1.out hii
              have hptl : PT.length ≤ 8 := by have := HG2.out; omega
              obtain ⟨wd, hwd⟩ : ∃ W, W = wr.drew := ⟨_, rfl⟩
              have xd : Ext wr wd := by rw [hwd]; exact (Ext.refl _).drew
              have HW := hid hwd
              have hKd := hK.ext xd
              have cd := xd.cell cr
              have oPd := HOP.out.keep (w2 := wd) fun b hb => hKd.2 b (HOP.out.lt b hb) (by rw [List.mem_singleton]; exact HFP.out b hb)
              obtain ⟨bp, op, eP, hIp, cp⟩ := oPd.sl.int hii
              subst eP
              have oRd := HORQ.out.keep (w2 := wd) fun b hb => hKd.2 b (HORQ.out.lt b hb) (by rw [List.mem_singleton]; exact (HFR.out b hb).2.2)
              obtain ⟨bi, oi, eI, _, ci⟩ := oRd.sl.int hip
              subst eI
              have hbx := HI.out.bd i hip
              obtain ⟨x, hxe⟩ : ∃ x : Nat, it.getD i 0 = x := ⟨(it.getD i 0).toNat, by omega⟩
              have hxe2 : it[i] = (x : Int) := by rw [← getD_getElem (d := 0) hip]; exact hxe
              rw [hxe2] at ci
              have hxm : x < m.length := by omega
              have HST := hid (show labSt it PT j L (i + 1) = (labSt it PT j L i).set x ((j : Int) * 8 + PT.getD i 0) from by rw [labSt, hxe, Int.toNat_natCast])
              rw [getD_getElem hii] at HST
              have hLS : (labSt it PT j L i).length = m.length := by rw [labSt_len]; exact HLL.out
              obtain ⟨gx, ox, cx, eX, _, cs, fs, st⟩ := (hO.ext xd).int_store (by simp) (i := x) (by omega)
              injection eX with e9 q1 q2
              clear q1 q2
              injection e9 with e9
              injection e9 with e8 e7 q3
              clear q3
              subst e8; subst e7
              rw [Nat.zero_add] at cs fs
              have st2 := st ((j : Int) * 8 + PT[i]) (by unfold I64; omega)
              rw [Nat.zero_add] at st2
              have HS2 := hid st2
              have HX2 := hid ((hx.trans xd).setCell (p := ⟨gL, x, none⟩) (by have := HGG.out; show w.heap.size ≤ gL; omega) (.int .i64 ((j : Int) * 8 + PT[i])))
              have HK2 := hid (hKd.set (i := x) (g := gL) (by simp) (.int .i64 ((j : Int) * 8 + PT[i])))
              have hu : ∃ u, wd.cell? ⟨gL, x, none⟩ = some u := ⟨_, cs⟩
              clear cs
              obtain ⟨u, cs⟩ := hu
              obtain ⟨y, hy⟩ : ∃ y, y = PT[i] := ⟨_, rfl⟩
              rw [← hy] at cp hpb HST HS2 HX2 HK2
              clear hO hK hx oPd oRd hKd xd hwd hxe hxe2 hbx hLS st st2 hy hIp
              go_wp2_with fail
              refine wp_region_tail 16 HW.out (by kernel_rfl) (by kernel_rfl) ?_
              simp only [List.take_succ_cons, List.take_zero, List.drop_succ_cons, List.drop_zero]
              repeat (first | go_big_quiet_step ((fail)) | (go_big_quiet_want; go_big_quiet_op; apply Exists.intro; refine ⟨?_, ?_⟩; (fail); go_big_quiet_on))
              refine wpQuiet_nil ?_
              go_wp2
              go_roundw
              case rel => exact ⟨i + 1, by omega, by go_num, by rw [HST.out]; exact HS2.out, HK2.out, HX2.out⟩
              case measure => simp [intOf]; omega
            · have hie : i = it.length := by omega
              subst hie
              have b6r : Blk wr g6 30 _ := HBQ.out.keep (hK.2 g6 (block_lt HBQ.out) (by rw [List.mem_singleton]; have := HGG.out; omega))
              have HB9 := hid b6r
              have HO9 := hid hO
              have HK9 := hid (HKQ.out.via hK fun b _ hm => by rw [List.mem_singleton] at hm; subst hm; simp)
              have HX9 := hid hx
              clear hO hK hx b6r
              go_wp2_with fail
              go_roundw
              case rel => exact ⟨j + 1, by omega, by go_num, by rw [HLN.out]; exact HO9.out, HB9.out, HK9.out, HX9.out⟩
              case measure => simp [intOf]; omega
        · have HE2 := hid (show exactN bs (j + 1) = false from by rw [HEX.out, decide_eq_false h6, Bool.and_false])
          have hp : PT = impP (subM m it) (restrC l it) (startP (subM m it) (restrC l it)) := by rw [HPT.out]; unfold partP; rw [if_neg (by rw [HSL.out]; exact h6)]
          have h6d : decide (6 < (it.length : Int)) = true := by simp; omega
          have h6i : ¬ (it.length : Int) ≤ 6 := by omega
          obtain ⟨k0, k1, k2, k3⟩ := (HB6W.out.ext HX7.out).c4.1
          have k2f := (HB6W.out.ext HX7.out).c4.2 2
          obtain ⟨w8, hw8⟩ : ∃ W, W = w7.setCell ⟨g6, 2, none⟩ (.bool false) := ⟨_, rfl⟩
          have HW8 := hid hw8
          have HB8 := hid (show Blk w8 g6 30 [.slice none 0 0, .int .i64 0, .bool false, .int .i64 0] from by rw [hw8]; exact (HB6W.out.ext HX7.out).set2 (.bool false))
          have HK8 := hid (show KeepB wc w8 [gL, g6] from by rw [hw8]; exact (HKW.out.ext HX7.out).set (by simp) _)
          have HX8 := hid (show Ext w w8 from by rw [hw8]; exact (HXW.out.trans HX7.out).setCell (p := ⟨g6, 2, none⟩) (by have := HGG.out; show w.heap.size ≤ g6; omega) _)
          have HO8 := hid (show OwnSl intO w8 (.slice (some ⟨gL, 0, none⟩) m.length m.length) L [gL] from by rw [hw8]; exact (HO.out.ext HX7.out).setCell (by have := HGG.out; simp; omega) _)
          have HOR8 := hid (show OwnSl intO w8 (.slice A7 it.length c7) it Fr from by rw [hw8]; exact (HORW.out.ext HX7.out).setCell (fun hm => (HFR.out _ hm).2.1 (by simp)) _)
          have HO58 := hid (show OwnSl (slO intO) w8 (.slice A5 (subM m it).length cp5) (subM m it) F5 from by rw [hw8]; exact (HO5.out.ext x7).setCell (fun hm => HF5.out _ hm rfl) _)
          have HO68 := hid (show OwnSl constraintO w8 v6 (restrC l it) F6 from by rw [hw8]; exact (HO6.out.ext x7).setCell (fun hm => HF6.out _ hm rfl) _)
          have HG8 := hid (show gL < w8.heap.size from by have := HO8.out.lt gL (by simp); exact this)
          have HBV := hid (spec_BestPivot _ (subM m it) w8 HO58.out.sl HP2.out)
          have HKC := hid (fun (z : Value) (p : List Int) (W : World) (hp : Sl intR W z p) (y : Ext w8 W) => spec_KeepsConstraints z v6 p (restrC l it) W hp (HO68.out.ext y).sl)
          have HMC := hid (fun (W : World) (y : Ext w8 W) => spec_MustClosure (subM m it).length v6 (restrC l it) W (HO68.out.ext y).sl ⟨HP2.out.n1, HP2.out.n8⟩)
          have HIM := hid (fun (z : Value) (p : List Int) (W : World) (hp : Sl intR W z p) (y : Ext w8 W) (h1 : partB p = true) (h2 : p.length = (subM m it).length) => spec_ImprovePartition _ v6 z (subM m it) (restrC l it) p W (HO58.out.ext y).sl (HO68.out.ext y).sl hp HP2.out h1 h2)
          have HST := hid (show startP (subM m it) (restrC l it) = if keepsB (bpN (subM m it) (subM m it).length).1 (restrC l it) = true then (bpN (subM m it) (subM m it).length).1 else mustL (subM m it).length (restrC l it) from rfl)
          have HSTP := hid (start_part (m := subM m it) (l := restrC l it) HP2.out (by have := HCS3.out; unfold consistB at this; rw [Bool.and_eq_true] at this; exact this.1))
          obtain ⟨bp1, bp2⟩ := bpN_part HP2.out
          have HPI := hid hp
          rw [hw8] at HBV
          clear h6 hp hw8 o7 n7 x7 k0 k1 k3
          go_wp2_with fail
          refine (HBV.out).mono ?_
          rintro e w9 ⟨v9, F9, rfl, o9, n9, x9⟩
          rw [← HW8.out] at x9
          have HKB := hid (HKC.out v9 _ w9 o9.sl x9)
          rw [bp1, Bool.true_and] at HKB
          have HX9 := hid x9
          obtain ⟨A9, c9, e9, _⟩ := o9.form
          subst e9
          have HO9 := hid o9
          clear bp1 bp2 x9 o9 n9 cq k2 k2f
          go_wp2_with fail
          refine (HKB.out).mono ?_
          rintro e w10 ⟨rfl, x10⟩
          have HX10 := hid (HX9.out.trans x10)
          cases hkb : keepsB (bpN (subM m it) (subM m it).length).1 (restrC l it) with
          | true =>
            rw [hkb, if_pos rfl] at HST
            rw [HST.out] at HSTP HPI
            have HII := hid (HIM.out _ _ w10 (HO9.out.ext x10).sl HX10.out HSTP.out.1 HSTP.out.2)
            rw [← HPI.out] at HII
            clear hkb x10
            go_wp2_with fail
            refine (HII.out).mono ?_
            rintro e wq ⟨vP, FP, kP, rfl, oP, nP, xP⟩
            have HXE := hid (HX10.out.trans xP)
            have hfp : ∀ b ∈ FP, b ≠ gL := fun b hb e => by have := nP.2 b hb; have := HG8.out; have := HX10.out.size; omega
            have HXQ := hid (HX8.out.trans HXE.out)
            have HOQ := hid (HO8.out.ext HXE.out)
            have HBQ := hid (HB8.out.ext HXE.out)
            rw [← HE2.out] at HBQ
            have HORQ := hid (HOR8.out.ext HXE.out)
            have HKQ := hid (HK8.out.ext HXE.out)
            have cq := HKQ.out.cell HGT2.out HC0.out
            have HCQ := hid cq
            clear nP xP
            have HOP := hid oP
            have HFP := hid (show ∀ b ∈ FP, b ≠ gL from hfp)
            obtain ⟨AP, cP, eP, _⟩ := oP.form
            subst eP
            clear oP hfp
            go_wp2_with fail
            go_loopw [17] (fun t wr => ∃ i : Nat, i ≤ it.length ∧ t = .int .i64 i ∧ OwnSl intO wr (.slice (some ⟨gL, 0, none⟩) m.length m.length) (labSt it PT j L i) [gL] ∧ KeepB wq wr [gL] ∧ Ext w wr) (fun t _ => it.length - (intOf t).toNat)
            case atStart => exact ⟨0, Nat.zero_le _, rfl, HOQ.out, KeepB.refl _ _, HXQ.out⟩
            case round =>
              clear HOQ cq
              obtain ⟨i, hi, rfl, hO, hK, hx⟩ := hrel
              have cr := hK.cell (by rw [List.mem_singleton]; exact HGTL.out) HCQ.out
              by_cases hip : i < it.length
              · have hii : i < PT.length := by have := HG2.out; omega
                have hil8 := HIL.out
                have hpb := RG.bd8 HG1.out hii
                have hptl : PT.length ≤ 8 := by have := HG2.out; omega
                obtain ⟨wd, hwd⟩ : ∃ W, W = wr.drew := ⟨_, rfl⟩
                have xd : Ext wr wd := by rw [hwd]; exact (Ext.refl _).drew
                have HW := hid hwd
                have hKd := hK.ext xd
                have cd := xd.cell cr
                have oPd := HOP.out.keep (w2 := wd) fun b hb => hKd.2 b (HOP.out.lt b hb) (by rw [List.mem_singleton]; exact HFP.out b hb)
                obtain ⟨bp, op, eP, hIp, cp⟩ := oPd.sl.int hii
                subst eP
                have oRd := HORQ.out.keep (w2 := wd) fun b hb => hKd.2 b (HORQ.out.lt b hb) (by rw [List.mem_singleton]; exact (HFR.out b hb).2.2)
                obtain ⟨bi, oi, eI, _, ci⟩ := oRd.sl.int hip
                subst eI
                have hbx := HI.out.bd i hip
                obtain ⟨x, hxe⟩ : ∃ x : Nat, it.getD i 0 = x := ⟨(it.getD i 0).toNat, by omega⟩
                have hxe2 : it[i] = (x : Int) := by rw [← getD_getElem (d := 0) hip]; exact hxe
                rw [hxe2] at ci
                have hxm : x < m.length := by omega
                have HST := hid (show labSt it PT j L (i + 1) = (labSt it PT j L i).set x ((j : Int) * 8 + PT.getD i 0) from by rw [labSt, hxe, Int.toNat_natCast])
                rw [getD_getElem hii] at HST
                have hLS : (labSt it PT j L i).length = m.length := by rw [labSt_len]; exact HLL.out
                obtain ⟨gx, ox, cx, eX, _, cs, fs, st⟩ := (hO.ext xd).int_store (by simp) (i := x) (by omega)
                injection eX with e9 q1 q2
                clear q1 q2
                injection e9 with e9
                injection e9 with e8 e7 q3
                clear q3
                subst e8; subst e7
                rw [Nat.zero_add] at cs fs
                have st2 := st ((j : Int) * 8 + PT[i]) (by unfold I64; omega)
                rw [Nat.zero_add] at st2
                have HS2 := hid st2
                have HX2 := hid ((hx.trans xd).setCell (p := ⟨gL, x, none⟩) (by have := HGG.out; show w.heap.size ≤ gL; omega) (.int .i64 ((j : Int) * 8 + PT[i])))
                have HK2 := hid (hKd.set (i := x) (g := gL) (by simp) (.int .i64 ((j : Int) * 8 + PT[i])))
                have hu : ∃ u, wd.cell? ⟨gL, x, none⟩ = some u := ⟨_, cs⟩
                clear cs
                obtain ⟨u, cs⟩ := hu
                obtain ⟨y, hy⟩ : ∃ y, y = PT[i] := ⟨_, rfl⟩
                rw [← hy] at cp hpb HST HS2 HX2 HK2
                clear hO hK hx oPd oRd hKd xd hwd hxe hxe2 hbx hLS st st2 hy hIp
                go_wp2_with fail
                refine wp_region_tail 16 HW.out (by kernel_rfl) (by kernel_rfl) ?_
                simp only [List.take_succ_cons, List.take_zero, List.drop_succ_cons, List.drop_zero]
                repeat (first | go_big_quiet_step ((fail)) | (go_big_quiet_want; go_big_quiet_op; apply Exists.intro; refine ⟨?_, ?_⟩; (fail); go_big_quiet_on))
                refine wpQuiet_nil ?_
                go_wp2
                go_roundw
                case rel => exact ⟨i + 1, by omega, by go_num, by rw [HST.out]; exact HS2.out, HK2.out, HX2.out⟩
                case measure => simp [intOf]; omega
              · have hie : i = it.length := by omega
                subst hie
                have b6r : Blk wr g6 30 _ := HBQ.out.keep (hK.2 g6 (block_lt HBQ.out) (by rw [List.mem_singleton]; have := HGG.out; omega))
                have HB9 := hid b6r
                have HO9 := hid hO
                have HK9 := hid (HKQ.out.via hK fun b _ hm => by rw [List.mem_singleton] at hm; subst hm; simp)
                have HX9 := hid hx
                clear hO hK hx b6r
                go_wp2_with fail
                go_roundw
                case rel => exact ⟨j + 1, by omega, by go_num, by rw [HLN.out]; exact HO9.out, HB9.out, HK9.out, HX9.out⟩
                case measure => simp [intOf]; omega
          | false =>
            rw [hkb, if_neg (by decide)] at HST
            rw [HST.out] at HSTP HPI
            have HMM := hid (HMC.out w10 HX10.out)
            clear hkb x10
            go_wp2_with fail
            refine (HMM.out).mono ?_
            rintro e w11 ⟨v11, F11, rfl, o11, n11, x11⟩
            have HX11 := hid (HX10.out.trans x11)
            have HII := hid (HIM.out _ _ w11 o11.sl HX11.out HSTP.out.1 HSTP.out.2)
            rw [← HPI.out] at HII
            clear o11 n11 x11
            go_wp2_with fail
            refine (HII.out).mono ?_
            rintro e wq ⟨vP, FP, kP, rfl, oP, nP, xP⟩
            have HXE := hid (HX11.out.trans xP)
            have hfp : ∀ b ∈ FP, b ≠ gL := fun b hb e => by have := nP.2 b hb; have := HG8.out; have := HX11.out.size; omega
            have HXQ := hid (HX8.out.trans HXE.out)
            have HOQ := hid (HO8.out.ext HXE.out)
            have HBQ := hid (HB8.out.ext HXE.out)
            rw [← HE2.out] at HBQ
            have HORQ := hid (HOR8.out.ext HXE.out)
            have HKQ := hid (HK8.out.ext HXE.out)
            have cq := HKQ.out.cell HGT2.out HC0.out
            have HCQ := hid cq
            clear nP xP
            have HOP := hid oP
            have HFP := hid (show ∀ b ∈ FP, b ≠ gL from hfp)
            obtain ⟨AP, cP, eP, _⟩ := oP.form
            subst eP
            clear oP hfp
            go_wp2_with fail
            go_loopw [17] (fun t wr => ∃ i : Nat, i ≤ it.length ∧ t = .int .i64 i ∧ OwnSl intO wr (.slice (some ⟨gL, 0, none⟩) m.length m.length) (labSt it PT j L i) [gL] ∧ KeepB wq wr [gL] ∧ Ext w wr) (fun t _ => it.length - (intOf t).toNat)
            case atStart => exact ⟨0, Nat.zero_le _, rfl, HOQ.out, KeepB.refl _ _, HXQ.out⟩
            case round =>
              clear HOQ cq
              obtain ⟨i, hi, rfl, hO, hK, hx⟩ := hrel
              have cr := hK.cell (by rw [List.mem_singleton]; exact HGTL.out) HCQ.out
              by_cases hip : i < it.length
              · have hii : i < PT.length := by have := HG2.out; omega
                have hil8 := HIL.out
                have hpb := RG.bd8 HG1.out hii
                have hptl : PT.length ≤ 8 := by have := HG2.out; omega
                obtain ⟨wd, hwd⟩ : ∃ W, W = wr.drew := ⟨_, rfl⟩
                have xd : Ext wr wd := by rw [hwd]; exact (Ext.refl _).drew
                have HW := hid hwd
                have hKd := hK.ext xd
                have cd := xd.cell cr
                have oPd := HOP.out.keep (w2 := wd) fun b hb => hKd.2 b (HOP.out.lt b hb) (by rw [List.mem_singleton]; exact HFP.out b hb)
                obtain ⟨bp, op, eP, hIp, cp⟩ := oPd.sl.int hii
                subst eP
                have oRd := HORQ.out.keep (w2 := wd) fun b hb => hKd.2 b (HORQ.out.lt b hb) (by rw [List.mem_singleton]; exact (HFR.out b hb).2.2)
                obtain ⟨bi, oi, eI, _, ci⟩ := oRd.sl.int hip
                subst eI
                have hbx := HI.out.bd i hip
                obtain ⟨x, hxe⟩ : ∃ x : Nat, it.getD i 0 = x := ⟨(it.getD i 0).toNat, by omega⟩
                have hxe2 : it[i] = (x : Int) := by rw [← getD_getElem (d := 0) hip]; exact hxe
                rw [hxe2] at ci
                have hxm : x < m.length := by omega
                have HST := hid (show labSt it PT j L (i + 1) = (labSt it PT j L i).set x ((j : Int) * 8 + PT.getD i 0) from by rw [labSt, hxe, Int.toNat_natCast])
                rw [getD_getElem hii] at HST
                have hLS : (labSt it PT j L i).length = m.length := by rw [labSt_len]; exact HLL.out
                obtain ⟨gx, ox, cx, eX, _, cs, fs, st⟩ := (hO.ext xd).int_store (by simp) (i := x) (by omega)
                injection eX with e9 q1 q2
                clear q1 q2
                injection e9 with e9
                injection e9 with e8 e7 q3
                clear q3
                subst e8; subst e7
                rw [Nat.zero_add] at cs fs
                have st2 := st ((j : Int) * 8 + PT[i]) (by unfold I64; omega)
                rw [Nat.zero_add] at st2
                have HS2 := hid st2
                have HX2 := hid ((hx.trans xd).setCell (p := ⟨gL, x, none⟩) (by have := HGG.out; show w.heap.size ≤ gL; omega) (.int .i64 ((j : Int) * 8 + PT[i])))
                have HK2 := hid (hKd.set (i := x) (g := gL) (by simp) (.int .i64 ((j : Int) * 8 + PT[i])))
                have hu : ∃ u, wd.cell? ⟨gL, x, none⟩ = some u := ⟨_, cs⟩
                clear cs
                obtain ⟨u, cs⟩ := hu
                obtain ⟨y, hy⟩ : ∃ y, y = PT[i] := ⟨_, rfl⟩
                rw [← hy] at cp hpb HST HS2 HX2 HK2
                clear hO hK hx oPd oRd hKd xd hwd hxe hxe2 hbx hLS st st2 hy hIp
                go_wp2_with fail
                refine wp_region_tail 16 HW.out (by kernel_rfl) (by kernel_rfl) ?_
                simp only [List.take_succ_cons, List.take_zero, List.drop_succ_cons, List.drop_zero]
                repeat (first | go_big_quiet_step ((fail)) | (go_big_quiet_want; go_big_quiet_op; apply Exists.intro; refine ⟨?_, ?_⟩; (fail); go_big_quiet_on))
                refine wpQuiet_nil ?_
                go_wp2
                go_roundw
                case rel => exact ⟨i + 1, by omega, by go_num, by rw [HST.out]; exact HS2.out, HK2.out, HX2.out⟩
                case measure => simp [intOf]; omega
              · have hie : i = it.length := by omega
                subst hie
                have b6r : Blk wr g6 30 _ := HBQ.out.keep (hK.2 g6 (block_lt HBQ.out) (by rw [List.mem_singleton]; have := HGG.out; omega))
                have HB9 := hid b6r
                have HO9 := hid hO
                have HK9 := hid (HKQ.out.via hK fun b _ hm => by rw [List.mem_singleton] at hm; subst hm; simp)
                have HX9 := hid hx
                clear hO hK hx b6r
                go_wp2_with fail
                go_roundw
                case rel => exact ⟨j + 1, by omega, by go_num, by rw [HLN.out]; exact HO9.out, HB9.out, HK9.out, HX9.out⟩
                case measure => simp [intOf]; omega
      · have hje : j = bs.length := by omega
        subst hje
        have hgg := HGG.out
        rw [← HFIN.out.1] at hO
        rw [← HFIN.out.2] at hB6
        have HCL := hid (spec_CanonicalLabels _ _ wr hO.sl (by unfold labP; rw [labN_len]; have := HN.out.2; omega))
        have b4r : Blk wr g4 30 _ := HB4C.out.keep (hK.2 g4 (block_lt HB4C.out) (by simp only [List.mem_cons, List.not_mem_nil, or_false, not_or]; omega))
        have hg6wr := block_lt hB6
        have hg4wr := block_lt b4r
        have HB6 := hid hB6
        have HB4R := hid b4r
        have HXR := hid hx
        have HLT := hid (And.intro hg6wr hg4wr)
        clear hO hB6 hK hx hgg b4r hg6wr hg4wr
        go_wp2_with fail
        refine (HCL.out).mono ?_
        rintro e w8 ⟨v8, F8, rfl, o8, n8, x8⟩
        obtain ⟨LB, hLB⟩ : ∃ LB, LB = clLab m l := ⟨_, rfl⟩
        have hLBe : canonL (labP m l) = LB := by rw [hLB]; rfl
        rw [hLBe] at o8
        obtain ⟨lp1, lp2⟩ := clLab_part l HM.out
        rw [← hLB] at lp1 lp2
        obtain ⟨A8, c8, e8, _⟩ := o8.form
        subst e8
        have HLP := hid (And.intro lp1 lp2)
        have HLB := hid hLB
        have hF8 : ∀ b ∈ F8, b ≠ g6 ∧ b ≠ g4 := fun b hb => by have := n8.2 b hb; have := HLT.out; omega
        have b68 := HB6.out.ext x8
        obtain ⟨s0, _, _, _⟩ := b68.c4.1
        have s0f := b68.c4.2 0
        have HB68 := hid (b68.set0 (.slice A8 LB.length c8))
        have HB48 := hid ((HB4R.out.ext x8).other (g2 := g6) (i := 0) (u := .slice A8 LB.length c8) (by have := HGG.out; omega))
        have HO8 := hid (o8.setCell (p := ⟨g6, 0, none⟩) (fun hm => (hF8 _ hm).1 rfl) (.slice A8 LB.length c8))
        have HX8 := hid ((HXR.out.trans x8).setCell (p := ⟨g6, 0, none⟩) (by have := HGG.out; show w.heap.size ≤ g6; omega) (.slice A8 LB.length c8))
        have HF8 := hid hF8
        have HN8 := hid (n8.ext HXR.out)
        obtain ⟨W8, hW8⟩ : ∃ W, W = w8.setCell ⟨g6, 0, none⟩ (.slice A8 LB.length c8) := ⟨_, rfl⟩
        rw [← hW8] at HB68 HB48 HO8 HX8
        have HPC := hid (spec_PartitionCost _ _ m LB W8 (HH.out.mono HX8.out) HO8.out.sl HM.out HLP.out.1 HLP.out.2)
        have hcb := costP_le HM.out (p := LB) (by rw [HLP.out.2]; exact Nat.le_refl _)
        obtain ⟨C, hC⟩ : ∃ C, C = costP m LB := ⟨_, rfl⟩
        have HC9 := hid hC
        rw [← hC] at HPC hcb
        obtain ⟨k0, k1, k2, k3⟩ := HB68.out.c4.1
        rw [hW8] at k0 HPC
        have HW8 := hid hW8
        clear o8 n8 x8 hLB hLBe lp1 lp2 hF8 b68 hW8 hC k1 k2 k3
        go_wp2_with fail
        refine (HPC.out).mono ?_
        rintro e w9 ⟨rfl, x9⟩
        rw [← HW8.out] at x9
        have b69 := HB68.out.ext x9
        obtain ⟨t0, t1, t2, t3⟩ := b69.c4.1
        have t1f := b69.c4.2 1
        have HB69 := hid (b69.set1 (.int .i64 C))
        have HB49 := hid ((HB48.out.ext x9).other (g2 := g6) (i := 1) (u := .int .i64 C) (by have := HGG.out; omega))
        have HO9 := hid ((HO8.out.ext x9).setCell (p := ⟨g6, 1, none⟩) (fun hm => (HF8.out _ hm).1 rfl) (.int .i64 C))
        have HX9 := hid ((HX8.out.trans x9).setCell (p := ⟨g6, 1, none⟩) (by have := HGG.out; show w.heap.size ≤ g6; omega) (.int .i64 C))
        obtain ⟨W9, hW9⟩ : ∃ W, W = w9.setCell ⟨g6, 1, none⟩ (.int .i64 C) := ⟨_, rfl⟩
        rw [← hW9] at HB69 HB49 HO9 HX9
        have HGP := hid (show clGap m l = if clExact m l = true then 0 else gapP m (clLab m l) from rfl)
        obtain ⟨ex, hex⟩ : ∃ ex, ex = clExact m l := ⟨_, rfl⟩
        rw [← hex] at HB69 HGP
        have HEX := hid hex
        obtain ⟨q0, q1, q2, q3⟩ := HB69.out.c4.1
        clear hex t0 t2 t3 x9
        cases ex with
        | true =>
          rw [if_pos rfl] at HGP
          obtain ⟨⟨a0, a1⟩, ⟨a2, a3⟩, ⟨a4, a5⟩, ⟨a6, a7⟩, b9⟩ := HB49.out.store4 (.slice A8 LB.length c8) (.int .i64 C) (.bool true) (.int .i64 0)
          have HX10 := hid ((((HX9.out.setCell (p := ⟨g4, 0, none⟩) (HGG.out.2.2.1) (.slice A8 LB.length c8)).setCell (p := ⟨g4, 1, none⟩) (HGG.out.2.2.1) (.int .i64 C)).setCell (p := ⟨g4, 2, none⟩) (HGG.out.2.2.1) (.bool true)).setCell (p := ⟨g4, 3, none⟩) (HGG.out.2.2.1) (.int .i64 0))
          have HO10 := hid ((((HO9.out.setCell (p := ⟨g4, 0, none⟩) (fun hm => (HF8.out _ hm).2 rfl) (.slice A8 LB.length c8)).setCell (p := ⟨g4, 1, none⟩) (fun hm => (HF8.out _ hm).2 rfl) (.int .i64 C)).setCell (p := ⟨g4, 2, none⟩) (fun hm => (HF8.out _ hm).2 rfl) (.bool true)).setCell (p := ⟨g4, 3, none⟩) (fun hm => (HF8.out _ hm).2 rfl) (.int .i64 0))
          rw [hW9] at q0 q1 q2 q3 a0 a1 a2 a3 a4 a5 a6 a7 b9 HX10 HO10
          clear hW9
          go_wp2
          obtain ⟨⟨r0, r1, r2, r3⟩, _⟩ := b9.c4
          refine bodyPost_ret (v := .tuple #[.agg #[.slice A8 LB.length c8, .int .i64 C, .bool true, .int .i64 0], .bool true]) (by simp [results, Tryz.results8, go_sem, r0, r1, r2, r3]) rfl ?_
          exact ⟨_, F8, by rw [HC9.out, HLB.out, ← HEX.out, HGP.out], by rw [← HLB.out]; exact HO10.out, HN8.out, HX10.out⟩
        | false =>
          rw [if_neg (by decide)] at HGP
          obtain ⟨hgp, hgl⟩ := greedy_pack HM.out
          have HGI := hid (fun (W : World) (y : Ext w W) => spec_GreedyPacking _ m W (HH.out.mono y) HM.out)
          have HGA := hid (fun (W : World) (y : Ext w W) (z q : Value) (k : Sl intR W z LB) (r : Sl triangleR W q (greedyL m)) => spec_OptimalityGap _ z q m LB (greedyL m) W (HH.out.mono y) k r HM.out HLP.out.1 HLP.out.2 hgp (by omega))
          rw [← HC9.out] at HGA
          have HGV := hid (show clGap m l = C - sumT (greedyL m) from by rw [HGP.out, HC9.out, HLB.out]; rfl)
          have hsb := sumT_bd (l := greedyL m) fun t ht => (hgp.tri t ht).2
          obtain ⟨sg, hsg⟩ : ∃ s, s = sumT (greedyL m) := ⟨_, rfl⟩
          rw [← hsg] at HGA HGV hsb
          clear hgp hsg
          have HQ := hid q0
          rw [hW9] at q0 q2
          go_wp2_with fail
          rw [← hW9]
          clear hW9 q0 q2
          refine wp_region_J 7 (fun w' => w'.cell? ⟨g6, 0, none⟩ = some (.slice A8 LB.length c8)) (by kernel_rfl) ?_
          refine wpAnyJ_take (i := 0) (v := ?v0z) (by simp only [List.getElem?_toArray, List.getElem?_cons_succ, List.getElem?_cons_zero, Option.some.injEq]; exact rfl) (by kernel_rfl) (by kernel_rfl) (by kernel_rfl) (by kernel_rfl) (by exact fun _ _ _ h => h) (Or.inl ⟨by rfl, fun w9 hS9 => ?hy0z⟩) (by exact HQ.out) ?rest0z
          case hy0z => (try dsimp only at hS9); go_simp <;> with_reducible rfl
          try simp only [Act.put, List.setIfInBounds_toArray, List.set_cons_zero, List.set_cons_succ]
          refine wpAnyJ_take (i := 1) (v := ?v1z) (by simp only [List.getElem?_toArray, List.getElem?_cons_succ, List.getElem?_cons_zero, Option.some.injEq]; exact rfl) (by kernel_rfl) (by kernel_rfl) (by kernel_rfl) (by kernel_rfl) (by exact fun _ _ _ h => h) (Or.inl ⟨by rfl, fun w9 hS9 => ?hy1z⟩) (by exact HQ.out) ?rest1z
          case hy1z => (try dsimp only at hS9); go_simp <;> with_reducible rfl
          try simp only [Act.put, List.setIfInBounds_toArray, List.set_cons_zero, List.set_cons_succ]
          refine wpAnyJ_take (i := 2) (v := ?v2z) (by simp only [List.getElem?_toArray, List.getElem?_cons_succ, List.getElem?_cons_zero, Option.some.injEq]; exact rfl) (by kernel_rfl) (by kernel_rfl) (by kernel_rfl) (by kernel_rfl) (by exact fun _ _ _ h => h) (Or.inl ⟨by rfl, fun w9 hS9 => ?hy2z⟩) (by exact HQ.out) ?rest2z
          case hy2z => (try dsimp only at hS9); go_simp <;> with_reducible rfl
          try simp only [Act.put, List.setIfInBounds_toArray, List.set_cons_zero, List.set_cons_succ]
          refine wpAnyJ_take (i := 3) (v := ?v3z) (by simp only [List.getElem?_toArray, List.getElem?_cons_succ, List.getElem?_cons_zero, Option.some.injEq]; exact rfl) (by kernel_rfl) (by kernel_rfl) (by kernel_rfl) (by kernel_rfl) (by exact fun _ _ _ h => h) (Or.inl ⟨by rfl, fun w9 hS9 => ?hy3z⟩) (by exact HQ.out) ?rest3z
          case hy3z => (try dsimp only at hS9); go_simp <;> with_reducible rfl
          try simp only [Act.put, List.setIfInBounds_toArray, List.set_cons_zero, List.set_cons_succ]
          refine wpAnyJ_one (i := 4) (by simp only [List.getElem?_toArray, List.getElem?_cons_succ, List.getElem?_cons_zero, Option.some.injEq]; exact rfl) (by kernel_rfl) (fun K hK => ?_)
          go_simp
          refine (HGI.out _ HX9.out.drew).mono ?_
          rintro e wg ⟨vg, Fg, rfl, og, ng, xg⟩
          have xg0 : Ext W9 wg := (Ext.refl W9).drew.trans xg
          obtain ⟨Ag, cg, eg, _⟩ := og.form
          subst eg
          refine hK _ _ (xg0.cell HQ.out) ?_
          try simp only [Act.put, List.setIfInBounds_toArray, List.set_cons_zero, List.set_cons_succ]
          clear hK K
          refine wpAnyJ_one (i := 5) (by simp only [List.getElem?_toArray, List.getElem?_cons_succ, List.getElem?_cons_zero, Option.some.injEq]; exact rfl) (by kernel_rfl) (fun K hK => ?_)
          go_simp
          refine (HGA.out wg (HX9.out.trans xg0) _ _ (HO9.out.ext xg0).sl og.sl).mono ?_
          rintro e wh ⟨rfl, xh⟩
          have xh0 : Ext W9 wh := xg0.trans xh
          refine hK _ _ (xh0.cell HQ.out) ?_
          try simp only [Act.put, List.setIfInBounds_toArray, List.set_cons_zero, List.set_cons_succ]
          clear hK K
          refine wpAnyJ_one (i := 6) (by simp only [List.getElem?_toArray, List.getElem?_cons_succ, List.getElem?_cons_zero, Option.some.injEq]; exact rfl) (by kernel_rfl) (fun K hK => ?_)
          go_simp
          refine hK _ _ (xh0.cell HQ.out) ?_
          try simp only [Act.put, List.setIfInBounds_toArray, List.set_cons_zero, List.set_cons_succ]
          clear hK K
          have b6h := HB69.out.ext xh0
          have c6h : wh.cell? ⟨g6, 3, none⟩ = some (.int .i64 0) := b6h.cells.1 3
          have f6h := b6h.cells.2 3
          have b4h := (HB49.out.ext xh0).other (g2 := g6) (i := 3) (u := .int .i64 (C - sg)) (by have := HGG.out; omega)
          have HB6H := hid (b6h.set3 (.int .i64 (C - sg)))
          have HB4H := hid b4h
          have HOH := hid ((HO9.out.ext xh0).setCell (p := ⟨g6, 3, none⟩) (fun hm => (HF8.out _ hm).1 rfl) (.int .i64 (C - sg)))
          have HXH := hid ((HX9.out.trans xh0).setCell (p := ⟨g6, 3, none⟩) (by have := HGG.out; show w.heap.size ≤ g6; omega) (.int .i64 (C - sg)))
          clear b6h b4h
          refine wpAnyJ_last (by simp only [List.getElem?_toArray, List.getElem?_cons_succ, List.getElem?_cons_zero, Option.some.injEq]; exact rfl) (by kernel_rfl) (by kernel_rfl) (fun K hK => ?_)
          go_simp
          refine hK _ _ ?_
          clear hK K c6h f6h
          obtain ⟨WH, hWH⟩ : ∃ W, W = wh.setCell ⟨g6, 3, none⟩ (.int .i64 (C - sg)) := ⟨_, rfl⟩
          rw [← hWH] at HB6H HB4H HOH HXH ⊢
          clear hWH
          obtain ⟨p0, p1, p2, p3⟩ := HB6H.out.c4.1
          obtain ⟨⟨a0, a1⟩, ⟨a2, a3⟩, ⟨a4, a5⟩, ⟨a6, a7⟩, b9⟩ := HB4H.out.store4 (.slice A8 LB.length c8) (.int .i64 C) (.bool false) (.int .i64 (C - sg))
          have HX10 := hid ((((HXH.out.setCell (p := ⟨g4, 0, none⟩) (HGG.out.2.2.1) (.slice A8 LB.length c8)).setCell (p := ⟨g4, 1, none⟩) (HGG.out.2.2.1) (.int .i64 C)).setCell (p := ⟨g4, 2, none⟩) (HGG.out.2.2.1) (.bool false)).setCell (p := ⟨g4, 3, none⟩) (HGG.out.2.2.1) (.int .i64 (C - sg)))
          have HO10 := hid ((((HOH.out.setCell (p := ⟨g4, 0, none⟩) (fun hm => (HF8.out _ hm).2 rfl) (.slice A8 LB.length c8)).setCell (p := ⟨g4, 1, none⟩) (fun hm => (HF8.out _ hm).2 rfl) (.int .i64 C)).setCell (p := ⟨g4, 2, none⟩) (fun hm => (HF8.out _ hm).2 rfl) (.bool false)).setCell (p := ⟨g4, 3, none⟩) (fun hm => (HF8.out _ hm).2 rfl) (.int .i64 (C - sg)))
          go_wp2
          obtain ⟨⟨r0, r1, r2, r3⟩, _⟩ := b9.c4
          refine bodyPost_ret (v := .tuple #[.agg #[.slice A8 LB.length c8, .int .i64 C, .bool false, .int .i64 (C - sg)], .bool true]) (by simp [results, Tryz.results8, go_sem, r0, r1, r2, r3]) rfl ?_
          exact ⟨_, F8, by rw [HC9.out, HLB.out, ← HEX.out, ← HLB.out, ← HC9.out, HGV.out], by rw [← HLB.out]; exact HO10.out, HN8.out, HX10.out⟩
end Go.Proofs.YtidchfncfcckiaaGreat
