/-
  SEVERAL SMALL TEXTS LAID TOGETHER: MovI, BstI, PosS, BstJ, AreS, PrtS, PartC, ConS, BlkS, CstS, SchS.
-/
import Derived.Test.YtidchfncfcckiaaGreatMgEndClu2
import Derived.Test.YtidchfncfcckiaaGreatMgEndClu4
import Derived.Test.YtidchfncfcckiaaGreatMgEndClu8
import Derived.Test.YtidchfncfcckiaaGreatMgEndClu0
import Derived.Test.YtidchfncfcckiaaGreatMgEndClu9

namespace Go.Proofs.YtidchfncfcckiaaGreat
open Go.RowKit

set_option maxHeartbeats 400000 in
set_option maxRecDepth 20000 in
theorem impl_moved (v : Value) (l : List Int) (i k : Nat) (w : World) (h : Sl intR w v l) (hi : i < l.length) (h8 : l.length ≤ 8) (hk : k ≤ 8) :
    Calls Tryz.prog 126 #[v, .int .i64 i, .int .i64 k] w fun e w2 => ∃ v2 F, e = .returned v2 ∧ OwnSl intO w2 v2 (movedP l i k) F ∧ NewF w F ∧ Ext w w2 := by
  have HC := hid (slices_Clone_i v l w h (by omega))
  obtain ⟨A, cap, rfl, hm⟩ := h.form
  clear h
  go_enter Tryz.func126, Tryz.ntmps126
  go_wp2_with fail
  refine (HC.out).mono ?_
  rintro e w2 ⟨v2, F2, rfl, o2, n2, x2⟩
  obtain ⟨g, off, cap2, e2, hg, c1, f1, st⟩ := o2.int_store n2.1 hi
  subst e2
  have HO := hid (st (k : Int) (by unfold I64; omega))
  have hgw : w.heap.size ≤ g := n2.2 g hg
  have HX := hid (x2.setCell (p := ⟨g, off + i, none⟩) hgw (.int .i64 k))
  have HL := hid (impl_CanonicalLabels _ _ _ HO.out.sl (by rw [List.length_set]; omega))
  clear o2 n2 x2 st hg hgw
  go_wp2_with fail
  refine (HL.out).mono ?_
  rintro e w3 ⟨v3, F3, rfl, o3, n3, x3⟩
  go_wp2
  go_ret
  exact ⟨v3, F3, rfl, o3, n3.ext HX.out, HX.out.trans x3⟩

set_option maxHeartbeats 400000 in
theorem impl_canMove (v u z : Value) (m : List (List Int)) (cs : List Constraint) (l : List Int) (w : World) (h : Sl (slR intR) w v m) (h2 : Sl constraintR w u cs) (h3 : Sl intR w z l) (hm : WM m) (hp : partB l = true) (hl : l.length = m.length) :
    Calls Tryz.prog 139 #[v, u, z] w fun e w2 => e = .returned (.bool (keepsB l cs)) ∧ Ext w w2 := by
  have HP := hid (impl_PartitionCost v z m l w h h3)
  rw [pcost_yes ⟨wmB_yes hm, hp, hl⟩] at HP
  have hc := costP_le hm (p := l) (by omega)
  have HK := hid (fun (W : World) (y : Ext w W) => impl_keeps z u l cs W (h3.mono y) (h2.mono y))
  obtain ⟨A, cap, rfl, hm1⟩ := h.form
  obtain ⟨B, cap2, rfl, hm2⟩ := h2.form
  obtain ⟨C, cap3, rfl, hm3⟩ := h3.form
  obtain ⟨c, hcc⟩ : ∃ c, c = costP m l := ⟨_, rfl⟩
  rw [← hcc] at HP hc
  have hd : decide (0 ≤ c) = true := by simp; omega
  obtain ⟨kb, hkb⟩ : ∃ c, c = keepsB l cs := ⟨_, rfl⟩
  rw [← hkb] at HK ⊢
  clear h h2 h3 hm hp hl hcc hkb
  go_enter Tryz.func139, Tryz.ntmps139
  go_wp2_with fail
  refine (HP.out).mono ?_
  rintro e w2 ⟨rfl, x2⟩
  go_wp2_with fail
  refine (HK.out _ x2).mono ?_
  rintro e w3 ⟨rfl, x3⟩
  go_wp2
  go_ret
  exact ⟨rfl, x2.trans x3⟩

section
variable {w : World} {g : Nat} {e : TypeId} {a b c : Value}
theorem Blk.c3 (h : Blk w g e [a, b, c]) : (w.cell? ⟨g, 0, none⟩ = some a ∧ w.cell? ⟨g, 1, none⟩ = some b ∧ w.cell? ⟨g, 2, none⟩ = some c) ∧ ∀ i, w.frozen? ⟨g, i, none⟩ = false :=
  ⟨⟨h.cells.1 0, h.cells.1 1, h.cells.1 2⟩, h.cells.2⟩
/-- a struct of three cells, stored cell by cell -/
theorem Blk.store3 (h : Blk w g e [a, b, c]) (x y z : Value) :
    (w.cell? ⟨g, 0, none⟩ = some a ∧ w.frozen? ⟨g, 0, none⟩ = false) ∧ ((w.setCell ⟨g, 0, none⟩ x).cell? ⟨g, 1, none⟩ = some b ∧ (w.setCell ⟨g, 0, none⟩ x).frozen? ⟨g, 1, none⟩ = false) ∧
    (((w.setCell ⟨g, 0, none⟩ x).setCell ⟨g, 1, none⟩ y).cell? ⟨g, 2, none⟩ = some c ∧ ((w.setCell ⟨g, 0, none⟩ x).setCell ⟨g, 1, none⟩ y).frozen? ⟨g, 2, none⟩ = false) ∧
    Blk (((w.setCell ⟨g, 0, none⟩ x).setCell ⟨g, 1, none⟩ y).setCell ⟨g, 2, none⟩ z) g e [x, y, z] := by
  have b1 := Blk.store (done := []) h rfl x
  have b2 := Blk.store (done := [x]) b1 rfl y
  exact ⟨Blk.at_ (done := []) h rfl, Blk.at_ (done := [x]) b1 rfl, Blk.at_ (done := [x, y]) b2 rfl, Blk.store (done := [x, y]) b2 rfl z⟩
end

set_option maxHeartbeats 2000000 in
set_option maxRecDepth 20000 in
theorem impl_BestMove (v u z : Value) (m : List (List Int)) (cs : List Constraint) (l : List Int) (w : World) (h : Sl (slR intR) w v m) (h2 : Sl constraintR w u cs) (h3 : Sl intR w z l) (hm : WM m) (hp : partB l = true) (hl : l.length = m.length) :
    Calls Tryz.prog 125 #[v, u, z] w fun e w2 => e = .returned (.tuple #[.agg #[.int .i64 (mvP m cs l).1, .int .i64 (mvP m cs l).2.1, .int .i64 (mvP m cs l).2.2], .bool (decide (0 < (mvP m cs l).2.2))]) ∧ Ext w w2 := by
  obtain ⟨hr, h1, h8⟩ := partB_iff.1 hp
  have xb : Ext w (w.alloc (.cells #[.int .i64 0, .int .i64 0, .int .i64 0] 109)) := (Ext.refl _).alloc _
  have HCM := hid (impl_canMove v u z m cs l _ (h.mono xb) (h2.mono xb) (h3.mono xb) hm hp hl)
  obtain ⟨A, cap, rfl, hm1⟩ := h.form
  obtain ⟨B, cap2, rfl, hm2⟩ := h2.form
  obtain ⟨C, cap3, rfl, hm3⟩ := h3.form
  have HV := hid (show mvP m cs l = if keepsB l cs = true then mvOut m cs l l.length else (0, 0, 0) from rfl)
  obtain ⟨kb, hkb⟩ : ∃ c, c = keepsB l cs := ⟨_, rfl⟩
  rw [← hkb] at HCM HV
  have HXB := hid xb
  cases kb with
  | false =>
    rw [if_neg (by decide)] at HV
    rw [HV.out]
    clear hkb h h2 h3 hm hp hl xb
    go_enter Tryz.func125, Tryz.ntmps125
    go_wp2_with fail
    refine (HCM.out).mono ?_
    rintro e w2 ⟨rfl, x2⟩
    have bR := (Blk.new w 109 #[.int .i64 0, .int .i64 0, .int .i64 0]).ext x2
    obtain ⟨⟨a0, a1⟩, ⟨a2, a3⟩, ⟨a4, a5⟩, b9⟩ := bR.store3 (.int .i64 0) (.int .i64 0) (.int .i64 0)
    go_wp2
    obtain ⟨⟨r0, r1, r2⟩, _⟩ := b9.c3
    refine bodyPost_ret (v := .tuple #[.agg #[.int .i64 0, .int .i64 0, .int .i64 0], .bool false]) (by simp [results, Tryz.results125, go_sem, r0, r1, r2]) rfl ?_
    exact ⟨rfl, (((HXB.out.trans x2).setCell (Nat.le_refl _) _).setCell (Nat.le_refl _) _).setCell (Nat.le_refl _) _⟩
  | true =>
    rw [if_pos rfl] at HV
    rw [HV.out]
    have hnb := RG.next_le (l := l) (k := l.length) (by rw [List.take_length]; exact hr) (Nat.le_refl _)
    rw [List.take_length] at hnb
    obtain ⟨nx, hnx⟩ : ∃ n : Nat, nextOf l = n := ⟨(nextOf l).toNat, by omega⟩
    have hcb := costP_le hm (p := l) (by omega)
    have HBC := hid (fun (W : World) (y : Ext w W) => impl_blockCount _ l W (h3.mono y) hr h1 h8)
    rw [hnx] at HBC
    have HPC := hid (fun (W : World) (y : Ext w W) => impl_partitionCost _ _ m l W (h.mono y) (h3.mono y) hm (by omega))
    have HMV := hid (fun (W : World) (y : Ext w W) (i k : Nat) (hi : i < l.length) (hk : k ≤ 8) => impl_moved _ l i k W (h3.mono y) hi h8 hk)
    have HPO := hid (fun (W : World) (y : Ext w W) (z : Value) (o : List Int) (q : Sl intR W z o) (ho : o.length = l.length) => impl_partitionCost _ _ m o W (h.mono y) q hm (by omega))
    have HKO := hid (fun (W : World) (y : Ext w W) (z : Value) (o : List Int) (q : Sl intR W z o) => impl_keeps _ _ o cs W q (h2.mono y))
    have HCO := hid (fun (o : List Int) (ho : o.length = l.length) => costP_le hm (p := o) (by omega))
    have HST := hid (fun (i : Nat) => (show mvOut m cs l (i + 1) = mvIn m cs l i (mvOut m cs l i) (nx + 1) from by rw [mvOut, hnx, Int.toNat_natCast]))
    have HIN := hid (fun (i : Nat) (T : Nat × Nat × Int) (k : Nat) => (show mvIn m cs l i T (k + 1) = if (mvIn m cs l i T k).2.2 < costP m l - costP m (movedP l i k) ∧ keepsB (movedP l i k) cs = true then (i, k, costP m l - costP m (movedP l i k)) else mvIn m cs l i T k from rfl))
    have HOK := hid (fun (i : Nat) (hi : i ≤ l.length) => mvOut_ok (m := m) (cs := cs) i hi)
    have HOI := hid (fun (i : Nat) (T : Nat × Nat × Int) (hi : i < l.length) (hT : MvOk m cs l T) (k : Nat) (hk : k ≤ nx + 1) => mvIn_ok hi hT k (by rw [hnx, Int.toNat_natCast]; exact hk))
    obtain ⟨c, hcc⟩ : ∃ c, c = costP m l := ⟨_, rfl⟩
    rw [← hcc] at HPC hcb HIN
    have HCC := hid hcc
    have hnx8 : nx ≤ 8 := by omega
    clear hkb h h2 h3 hm hp hl xb hr hnb hnx hcc
    go_enter Tryz.func125, Tryz.ntmps125
    go_wp2_with fail
    refine (HCM.out).mono ?_
    rintro e w2 ⟨rfl, x2⟩
    have bR := (Blk.new w 109 #[.int .i64 0, .int .i64 0, .int .i64 0]).ext x2
    have xw := HXB.out.trans x2
    obtain ⟨wn, hwn⟩ : ∃ W, W = w2.alloc (.cells #[.int .i64 0, .int .i64 0, .int .i64 0] 109) := ⟨_, rfl⟩
    have bF : Blk wn w2.heap.size 109 [.int .i64 0, .int .i64 0, .int .i64 0] := by rw [hwn]; exact Blk.new w2 109 #[.int .i64 0, .int .i64 0, .int .i64 0]
    have xn : Ext w2 wn := by rw [hwn]; exact (Ext.refl _).alloc _
    have HPC2 := hid (HPC.out wn (xw.trans xn))
    rw [hwn] at HPC2
    have hlt2 := block_lt bR
    obtain ⟨g8, hg8⟩ : ∃ g, g = w2.heap.size := ⟨_, rfl⟩
    have HG8 := hid hg8
    have HWN := hid hwn
    clear hwn
    go_wp2_with fail
    refine (HPC2.out).mono ?_
    rintro e w3 ⟨rfl, x3⟩
    rw [← HWN.out] at x3
    have HBF := hid (bF.ext x3)
    have HX3 := hid (xn.trans x3)
    have HXW := hid xw
    have HBR := hid bR
    rw [← hg8] at HBF
    clear HPC HPC2 HCM bF xn x3 HWN bR xw hg8 hlt2
    go_wp2_with fail
    rw [← HG8.out]
    go_loopw [25] (fun i wr => ∃ i' : Nat, i' ≤ l.length ∧ i = .int .i64 i' ∧ Blk wr g8 109 [.int .i64 (mvOut m cs l i').1, .int .i64 (mvOut m cs l i').2.1, .int .i64 (mvOut m cs l i').2.2] ∧ Ext w2 wr) (fun i _ => l.length - (intOf i).toNat)
    case atStart => exact ⟨0, Nat.zero_le _, rfl, HBF.out, HX3.out⟩
    case round =>
      clear HBF HX3
      obtain ⟨i, hi, rfl, hB, hx⟩ := hrel
      by_cases hlt : i < l.length
      · have HS := hid (HST.out i)
        have hTo := HOK.out i hi
        obtain ⟨T, hT⟩ : ∃ T, T = mvOut m cs l i := ⟨_, rfl⟩
        rw [← hT] at HS hTo hB
        have HTO := hid hTo
        have HB := hid hB
        have HX := hid hx
        clear hT hTo hB hx
        go_wp2_with fail
        go_loopw [11] (fun t wr => ∃ k : Nat, k ≤ nx + 1 ∧ t = .int .i64 k ∧ Blk wr g8 109 [.int .i64 (mvIn m cs l i T k).1, .int .i64 (mvIn m cs l i T k).2.1, .int .i64 (mvIn m cs l i T k).2.2] ∧ Ext w2 wr) (fun t _ => nx + 1 - (intOf t).toNat)
        case atStart => exact ⟨0, Nat.zero_le _, rfl, HB.out, HX.out⟩
        case round =>
          clear HB HX
          obtain ⟨k, hk, rfl, hB, hx⟩ := hrel
          have hIo := HOI.out i T hlt HTO.out k hk
          have HI := hid (HIN.out i T k)
          obtain ⟨U, hU⟩ : ∃ U, U = mvIn m cs l i T k := ⟨_, rfl⟩
          rw [← hU] at HI hIo hB
          have HBC2 := hid (HBC.out wr (HXW.out.trans hx))
          by_cases hkn : k ≤ nx
          · have hub : 0 ≤ U.2.2 ∧ U.2.2 ≤ c := by have := hIo.1; have := hIo.2.1; have := HCC.out; omega
            have hk8 : k ≤ 8 := by omega
            have HM2 := hid (HMV.out wr (HXW.out.trans hx) i k hlt hk8)
            have HB := hid hB
            have HX := hid hx
            clear hU hIo hB hx
            go_wp2_with fail
            refine (HBC2.out).mono ?_
            rintro e w4 ⟨rfl, rfl⟩
            go_wp2_with fail
            refine (HM2.out).mono ?_
            rintro e w4 ⟨v4, F4, rfl, o4, n4, x4⟩
            have hol := (movedP_facts l i k).2
            have hoc := HCO.out (movedP l i k) hol
            have HP4 := hid (HPO.out w4 (HXW.out.trans (HX.out.trans x4)) v4 _ o4.sl hol)
            obtain ⟨O, hO⟩ : ∃ O, O = movedP l i k := ⟨_, rfl⟩
            rw [← hO] at HI hol hoc HP4 o4
            obtain ⟨d, hd⟩ : ∃ d, d = costP m O := ⟨_, rfl⟩
            rw [← hd] at HI hoc HP4
            obtain ⟨A4, c4, e4, _⟩ := o4.form
            subst e4
            have HS4 := hid o4.sl
            have HX4 := hid (HX.out.trans x4)
            have HB4 := hid (HB.out.ext x4)
            clear hO hd o4 n4 HM2 hol
            go_wp2_with fail
            refine (HP4.out).mono ?_
            rintro e w5 ⟨rfl, x5⟩
            have hB5 := HB4.out.ext x5
            have c2 := hB5.c3.1.2.2
            have HX5 := hid (HX4.out.trans x5)
            have HB5 := hid hB5
            have HK5 := hid (HKO.out w5 (HXW.out.trans HX5.out) _ O (HS4.out.mono x5))
            clear x4
            obtain ⟨kb, hkb⟩ : ∃ kb, kb = keepsB O cs := ⟨_, rfl⟩
            rw [← hkb] at HK5 HI
            clear hkb hB5 x5 HB4 HP4
            by_cases hgt : U.2.2 < c - d
            · have hgd : decide (U.2.2 < c - d) = true := by simp [hgt]
              cases kb with
              | true =>
                have HE := hid (show mvIn m cs l i T (k + 1) = (i, k, c - d) from by rw [HI.out, if_pos ⟨hgt, rfl⟩])
                clear hgt
                go_wp2_with fail
                refine (HK5.out).mono ?_
                rintro e w6 ⟨rfl, x6⟩
                obtain ⟨⟨a0, a1⟩, ⟨a2, a3⟩, ⟨a4, a5⟩, b9⟩ := (HB5.out.ext x6).store3 (.int .i64 i) (.int .i64 k) (.int .i64 (c - d))
                have HB9 := hid b9
                have hgw : w2.heap.size ≤ g8 := by have := HG8.out; omega
                have HX9 := hid ((((HX5.out.trans x6).setCell (p := ⟨g8, 0, none⟩) hgw (.int .i64 i)).setCell (p := ⟨g8, 1, none⟩) hgw (.int .i64 k)).setCell (p := ⟨g8, 2, none⟩) hgw (.int .i64 (c - d)))
                clear b9 hgw c2
                go_wp2
                go_roundw
                case rel => exact ⟨k + 1, by omega, by go_num, by rw [HE.out]; exact HB9.out, HX9.out⟩
                case measure => simp [intOf]; omega
              | false =>
                have HE := hid (show mvIn m cs l i T (k + 1) = U from by rw [HI.out, if_neg fun h => by cases h.2])
                clear hgt
                go_wp2_with fail
                refine (HK5.out).mono ?_
                rintro e w6 ⟨rfl, x6⟩
                go_wp2
                go_roundw
                case rel => exact ⟨k + 1, by omega, by go_num, by rw [HE.out]; exact HB5.out.ext x6, HX5.out.trans x6⟩
                case measure => simp [intOf]; omega
            · have hgd : decide (U.2.2 < c - d) = false := by simp; omega
              have HE := hid (show mvIn m cs l i T (k + 1) = U from by rw [HI.out, if_neg fun h => hgt h.1])
              clear hgt
              go_wp2
              go_roundw
              case rel => exact ⟨k + 1, by omega, by go_num, by rw [HE.out]; exact HB5.out, HX5.out⟩
              case measure => simp [intOf]; omega
          · have hkn2 : k = nx + 1 := by omega
            have HB := hid hB
            have HS9 := hid (show mvOut m cs l (i + 1) = U from by rw [HS.out, hU, hkn2])
            clear hU hIo hB
            go_wp2_with fail
            refine (HBC2.out).mono ?_
            rintro e w4 ⟨rfl, rfl⟩
            go_wp2
            go_roundw
            case rel => exact ⟨i + 1, by omega, by go_num, by rw [HS9.out]; exact HB.out, hx⟩
            case measure => simp [intOf]; omega
      · have hil : i = l.length := by omega
        subst hil
        obtain ⟨U, hU⟩ : ∃ U, U = mvOut m cs l l.length := ⟨_, rfl⟩
        rw [← hU] at hB
        obtain ⟨⟨c0, c1, c2⟩, _⟩ := hB.c3
        have bR := HBR.out.ext hx
        obtain ⟨gR, hgR⟩ : ∃ g, g = w.heap.size := ⟨_, rfl⟩
        have hne : g8 ≠ gR := by have := block_lt HBR.out; have := HG8.out; omega
        have HGR := hid hgR
        rw [← hgR] at bR ⊢
        obtain ⟨⟨a0, a1⟩, ⟨a2, a3⟩, ⟨a4, a5⟩, b9⟩ := bR.store3 (.int .i64 U.1) (.int .i64 U.2.1) (.int .i64 U.2.2)
        have HB9 := hid b9
        have HX9 := hid ((((HXW.out.trans hx).setCell (p := ⟨gR, 0, none⟩) (by show _ ≤ gR; omega) (.int .i64 U.1)).setCell (p := ⟨gR, 1, none⟩) (by show _ ≤ gR; omega) (.int .i64 U.2.1)).setCell (p := ⟨gR, 2, none⟩) (by show _ ≤ gR; omega) (.int .i64 U.2.2))
        have HCS := hid (show ∀ W : World, Agree wr W gR → W.cell? ⟨g8, 0, none⟩ = some (.int .i64 U.1) ∧ W.cell? ⟨g8, 1, none⟩ = some (.int .i64 U.2.1) ∧ W.cell? ⟨g8, 2, none⟩ = some (.int .i64 U.2.2) from fun W y => ⟨y.cell hne c0, y.cell hne c1, y.cell hne c2⟩)
        have HU := hid hU
        clear hB hx bR hgR b9 hU
        go_wp2_with fail
        go_region_held3 (fun w' => w'.cell? ⟨g8, 0, none⟩ = some (.int .i64 U.1) ∧ w'.cell? ⟨g8, 1, none⟩ = some (.int .i64 U.2.1) ∧ w'.cell? ⟨g8, 2, none⟩ = some (.int .i64 U.2.2)) (first | exact HCS.out _ (fun _ _ => rfl) | exact HCS.out _ (Agree.set (Agree.set (Agree.set (fun _ _ => rfl))))) (fail)
        all_goals
          have b10 := HB9.out.ext (Ext.refl _).drew
          obtain ⟨r0, r1, r2⟩ := b10.c3.1
          have HX10 := hid HX9.out.drew
          go_wp2_with fail
          refine bodyPost_ret (v := .tuple #[.agg #[.int .i64 U.1, .int .i64 U.2.1, .int .i64 U.2.2], .bool (decide (0 < U.2.2))]) (by simp [results, Tryz.results125, go_sem, r0, r1, r2]) rfl ?_
          exact ⟨by rw [← HU.out], HX10.out⟩

set_option maxHeartbeats 2000000 in
set_option maxRecDepth 20000 in
theorem impl_ImprovePartition (v u z : Value) (m : List (List Int)) (cs : List Constraint) (l : List Int) (w : World) (h : Sl (slR intR) w v m) (h2 : Sl constraintR w u cs) (h3 : Sl intR w z l) (hm : WM m) (hp : partB l = true) (hl : l.length = m.length) :
    Calls Tryz.prog 85 #[v, u, z] w fun e w2 => ∃ v2 F k, e = .returned (.tuple #[v2, .int .i64 k]) ∧ OwnSl intO w2 v2 (impP m cs l) F ∧ NewF w F ∧ Ext w w2 := by
  have h8 := hm.n8
  have HC := hid (slices_Clone_i z l w h3 (by omega))
  obtain ⟨A, cap, rfl, hm1⟩ := h.form
  obtain ⟨B, cap2, rfl, hm2⟩ := h2.form
  obtain ⟨C, cap3, rfl, hm3⟩ := h3.form
  have HBM := hid (fun (W : World) (y : Ext w W) (z : Value) (q : List Int) (k : Sl intR W z q) (hq : partB q = true) (hl : q.length = m.length) => impl_BestMove _ _ z m cs q W (h.mono y) (h2.mono y) k hm hq hl)
  have HP := hid (And.intro hp hl)
  have HM8 := hid h8
  clear h h2 h3 hm hp hl h8
  go_enter Tryz.func85, Tryz.ntmps85
  go_wp2_with fail
  refine (HC.out).mono ?_
  rintro e w1 ⟨v1, F1, rfl, o1, n1, x1⟩
  have HO1 := hid o1
  obtain ⟨A1, c1, e1, _⟩ := o1.form
  subst e1
  clear o1
  go_wp2_with fail
  go_loopw [8, 14] (fun t i wr => ∃ (k : Nat) (q : List Int) (F : List Nat), k ≤ 100 ∧ i = .int .i64 k ∧ impN m cs (100 - k) q = impP m cs l ∧ partB q = true ∧ q.length = m.length ∧ OwnSl intO wr t q F ∧ NewF w F ∧ Ext w wr) (fun _ i _ => 100 - (intOf i).toNat)
  case atStart => exact ⟨0, l, F1, Nat.zero_le _, rfl, rfl, HP.out.1, HP.out.2, HO1.out, n1, x1⟩
  case round =>
    clear n1 x1
    obtain ⟨k, q, F, hk, rfl, hi, hp, hl, hO, hN, hx⟩ := hrel
    obtain ⟨A1, c1, e1, _⟩ := hO.form
    subst e1
    have HO := hid hO
    have HQ := hid (And.intro hp hl)
    have HB2 := hid (HBM.out wr hx _ q hO.sl hp hl)
    have hok := mvP_ok m cs q
    have hcost := hok.2.1
    have HMV := hid (fun (W : World) (y : Ext wr W) (i b : Nat) (hi : i < q.length) (hb : b ≤ 8) => impl_moved _ q i b W (hO.sl.mono y) hi (by have := HM8.out; omega) hb)
    have HI := hid hi
    clear hO hi hp hl
    by_cases hlt : k < 100
    · have HS := hid (show impN m cs (100 - k) q = if 0 < (mvP m cs q).2.2 then impN m cs (100 - (k + 1)) (movedP q (mvP m cs q).1 (mvP m cs q).2.1) else q from by
        rw [show 100 - k = (100 - (k + 1)) + 1 by omega]; rfl)
      have hnxb := RG.next_le (l := q) (k := q.length) (by rw [List.take_length]; exact (partB_iff.1 HQ.out.1).1) (Nat.le_refl _)
      rw [List.take_length] at hnxb
      have HNX := hid (show (nextOf q).toNat ≤ 8 by have := (partB_iff.1 HQ.out.1).2.2; omega)
      obtain ⟨T, hT⟩ : ∃ T, T = mvP m cs q := ⟨_, rfl⟩
      rw [← hT] at HB2 hok HS
      have HOK := hid hok
      clear hnxb hok hcost
      by_cases hg : 0 < T.2.2
      · have hgd : decide (0 < T.2.2) = true := by simp [hg]
        have hT2 : T.1 < q.length ∧ T.2.1 ≤ 8 := by
          rcases HOK.out.2.2 with e | ⟨_, e1, e2, _⟩
          · rw [e] at hg; exact absurd hg (Int.lt_irrefl _)
          · exact ⟨e1, Nat.le_trans e2 HNX.out⟩
        have HS2 := hid (show impN m cs (100 - k) q = impN m cs (100 - (k + 1)) (movedP q T.1 T.2.1) from by rw [HS.out, if_pos hg])
        have HT2 := hid hT2
        rw [hgd] at HB2
        clear hg hT hgd hT2
        go_wp2_with fail
        refine (HB2.out).mono ?_
        rintro e w2 ⟨rfl, x2⟩
        have x3 : Ext wr (w2.alloc (.cells #[.int .i64 (T.1 : Int), .int .i64 (T.2.1 : Int), .int .i64 T.2.2] 109)) := x2.alloc _
        have HM3 := hid (HMV.out _ x3 T.1 T.2.1 HT2.out.1 HT2.out.2)
        clear x2
        go_wp2_with fail
        refine (HM3.out).mono ?_
        rintro e w4 ⟨v4, F4, rfl, o4, n4, x4⟩
        have HR := hid (show impN m cs (100 - (k + 1)) (movedP q T.1 T.2.1) = impP m cs l ∧ partB (movedP q T.1 T.2.1) = true ∧ (movedP q T.1 T.2.1).length = m.length from ⟨by rw [← HS2.out]; exact HI.out, movedP_part HQ.out.1 _ _, by rw [(movedP_facts q _ _).2]; exact HQ.out.2⟩)
        have HN4 := hid (n4.ext (hx.trans x3))
        have HX4 := hid (hx.trans (x3.trans x4))
        obtain ⟨A4, c4, e4, _⟩ := o4.form
        subst e4
        have HO4 := hid o4
        clear o4 n4 x3 x4 hx hN
        go_wp2
        go_roundw
        case rel => exact ⟨k + 1, movedP q T.1 T.2.1, F4, by omega, by go_num, HR.out.1, HR.out.2.1, HR.out.2.2, HO4.out, HN4.out, HX4.out⟩
        case measure => simp [intOf]; omega
      · have hgd : decide (0 < T.2.2) = false := by simp; omega
        have HS2 := hid (show impP m cs l = q from by rw [← HI.out, HS.out, if_neg hg])
        rw [hgd] at HB2
        clear hg hT hgd
        go_wp2_with fail
        refine (HB2.out).mono ?_
        rintro e w2 ⟨rfl, x2⟩
        have x3 : Ext wr (w2.alloc (.cells #[.int .i64 (T.1 : Int), .int .i64 (T.2.1 : Int), .int .i64 T.2.2] 109)) := x2.alloc _
        have HX3 := hid x3
        clear x2 x3
        go_wp2_with fail
        refine bodyPost_ret (v := .tuple #[.slice A1 q.length c1, .int .i64 k]) (by simp [results, Tryz.results85, go_sem]) rfl ?_
        exact ⟨_, F, k, rfl, by rw [HS2.out]; exact HO.out.ext HX3.out, hN, hx.trans HX3.out⟩
    · have hk2 : k = 100 := by omega
      subst hk2
      have HS2 := hid (show impP m cs l = q from by rw [← HI.out]; rfl)
      clear hok hcost HB2 HMV
      go_wp2_with fail
      refine bodyPost_ret (v := .tuple #[.slice A1 q.length c1, .int .i64 100]) (by simp [results, Tryz.results85, go_sem]) rfl ?_
      exact ⟨_, F, 100, rfl, by rw [HS2.out]; exact HO.out, hN, hx⟩
end Go.Proofs.YtidchfncfcckiaaGreat

namespace Go.Proofs.YtidchfncfcckiaaGreat
open Go.RowKit

section
variable (m : List (List Int)) (l : List Constraint) (hm : WM m) (wE w0 : World) (A B : Option Addr) (cap cap2 gC gM gr gL gN gF : Nat) (f : Four wE w0 gr gL gN gF)
  (hE : Sl (slR intR) wE (.slice A m.length cap) m) (hC : Sl constraintR wE (.slice B l.length cap2) l)
  (hc0 : w0.cell? ⟨gC, 0, none⟩ = some (.slice B l.length cap2)) (hm0 : w0.cell? ⟨gM, 0, none⟩ = some (.slice A m.length cap))
  (nC : gC ∉ [gr, gL, gN, gF]) (nM : gM ∉ [gr, gL, gN, gF])
include hm f hE hC hc0 hm0 nC nM
set_option maxHeartbeats 2000000 in
set_option maxRecDepth 20000 in
theorem yield_c (L : List Int) (S : List Int × Int × Int) (w : World) (hJ : BestJ wE w0 gr gL gN gF m.length w L S) (hS : S.2.2 ≤ 1099511627776) :
    Calls Tryz.prog 117 #[.slice (some ⟨gr, 0, none⟩) m.length m.length, .pointer (some ⟨gC, 0, none⟩), .pointer (some ⟨gM, 0, none⟩), .pointer (some ⟨gL, 0, none⟩), .pointer (some ⟨gF, 0, none⟩), .pointer (some ⟨gN, 0, none⟩)] w fun e w2 =>
      e = .returned (.tuple #[]) ∧ BestJ wE w0 gr gL gN gF m.length w2 L (bestSt m l S L) := by
  have HM := hid hm
  have h8 := hm.n8
  have hlen := hJ.len
  have HLC := hid (And.intro hJ.keep hJ.ext)
  have HK := hid (fun (W : World) (J : BestJ wE w0 gr gL gN gF m.length W L S) => impl_keeps _ _ L l W (J.sl h8) (hC.mono J.ext))
  have HP := hid (fun (W : World) (J : BestJ wE w0 gr gL gN gF m.length W L S) => impl_partitionCost _ _ m L W (hE.mono J.ext) (J.sl h8) hm (by omega))
  have HCC := hid (fun (W : World) (J : BestJ wE w0 gr gL gN gF m.length W L S) => J.keep.cell nC hc0)
  have HCM := hid (fun (W : World) (J : BestJ wE w0 gr gL gN gF m.length W L S) => J.keep.cell nM hm0)
  have HST := hid (show bestSt m l S L = if keepsB L l = true then (if S.2.1 < 0 ∨ costP m L < S.2.1 then (L, costP m L, 1) else if costP m L = S.2.1 then (S.1, S.2.1, S.2.2 + 1) else S) else S from rfl)
  have hcb := costP_le hm (p := L) (by omega)
  obtain ⟨kb, hkb⟩ : ∃ k, k = keepsB L l := ⟨_, rfl⟩
  obtain ⟨c, hcc⟩ : ∃ c, c = costP m L := ⟨_, rfl⟩
  rw [← hkb] at HK HST
  rw [← hcc] at HP HST hcb
  clear hkb hcc hlen
  have HF := hid f
  have HJ := hid hJ
  have HS := hid hS
  have c1 := HCC.out w hJ
  clear hm hE hC hc0 hm0 nC nM f hJ HLC hS h8
  cases kb with
  | false =>
    have HR := hid (show bestSt m l S L = S from by rw [HST.out, if_neg (by decide)])
    go_enter Tryz.func117, Tryz.ntmps117
    go_wp2_with fail
    refine (HK.out _ HJ.out).mono ?_
    rintro e w2 ⟨rfl, x2⟩
    go_wp2
    (first | (simp only [Exit.inBlock, Exit.then]; refine bodyPost_ret (results_none rfl _ _ _) rfl ?_) | refine bodyPost_ret (results_none rfl _ _ _) rfl ?_ | go_end0)
    exact ⟨rfl, by rw [HR.out]; exact HJ.out.mono x2⟩
  | true =>
    rw [if_pos rfl] at HST
    go_enter Tryz.func117, Tryz.ntmps117
    go_wp2_with fail
    refine (HK.out _ HJ.out).mono ?_
    rintro e w2 ⟨rfl, x2⟩
    have J2 := HJ.out.mono x2
    have c2 := HCM.out w2 J2
    have HJ2 := hid J2
    clear c1 J2 HJ HCM HCC
    go_wp2_with fail
    refine (HP.out _ HJ2.out).mono ?_
    rintro e w3 ⟨rfl, x3⟩
    have J3 := HJ2.out.mono x3
    have d1 := J3.least.cells.1 0
    have d2 := J3.count.cells.1 0
    have hbd := J3.bd
    have HJ3 := hid J3
    clear c2 J3 HJ2
    obtain ⟨s1, c0, n0⟩ := S
    dsimp only at d1 d2 hbd HJ3 HST HS ⊢
    have d1' : w3.cell? ⟨gL, 0, none⟩ = some (.int .i64 c0) := d1
    clear d1
    have hbd3 := hbd
    clear hbd
    by_cases hlt : c0 < 0 ∨ c < c0
    · have HR := hid (show bestSt m l (s1, c0, n0) L = (L, c, 1) from by rw [HST.out, if_pos hlt])
      have HCL := hid (fun (W : World) (J : BestJ wE w0 gr gL gN gF m.length W L (s1, c0, n0)) => slices_Clone_i _ L W (J.sl HM.out.n8) (by have := J.len; have := HM.out.n8; omega))
      have HF2 := HF.out
      have l1 := HF2.LF
      have l2 := HF2.NF
      have l3 := HF2.LN
      have HK3 := hid HJ3.out.keep.1
      clear HF2
      have hcase : (decide (c0 < 0) = true) ∨ (decide (c0 < 0) = false ∧ decide (c < c0) = true) := by
        by_cases h : c0 < 0
        · exact .inl (by simp [h])
        · exact .inr ⟨by simp [h], by simp; omega⟩
      clear hlt
      rcases hcase with hd | ⟨hd, hd2⟩
      · go_wp2_with (go_at_call 118; refine (HCL.out _ HJ3.out).mono ?_; rintro e w4 ⟨v4, F4, rfl, o4, n4, x4⟩; obtain ⟨A4, c4, e9, _⟩ := o4.form; subst e9; have J4 := HJ3.out.mono x4; have K4 := J4.set3 HF.out o4 (show NewF w0 F4 from ⟨n4.1, fun b hb => Nat.le_trans HK3.out (n4.2 b hb)⟩) ⟨by omega, hcb.2⟩; have HK4 := hid K4; obtain ⟨vv, FF, g1, g2, g3⟩ := J4.first; have e1 := g1.cells.1 0; have e2 := g1.cells.2 0; have e3 := J4.least.cells.1 0; have e4 := J4.least.cells.2 0; have e5 := J4.count.cells.1 0; have e6 := J4.count.cells.2 0; clear g1 g2 g3 J4 K4 o4)
        (first | (simp only [Exit.inBlock, Exit.then]; refine bodyPost_ret (results_none rfl _ _ _) rfl ?_) | refine bodyPost_ret (results_none rfl _ _ _) rfl ?_ | go_end0)
        exact ⟨rfl, by rw [HR.out]; exact HK4.out⟩
      · go_wp2_with (go_at_call 118; refine (HCL.out _ HJ3.out).mono ?_; rintro e w4 ⟨v4, F4, rfl, o4, n4, x4⟩; obtain ⟨A4, c4, e9, _⟩ := o4.form; subst e9; have J4 := HJ3.out.mono x4; have K4 := J4.set3 HF.out o4 (show NewF w0 F4 from ⟨n4.1, fun b hb => Nat.le_trans HK3.out (n4.2 b hb)⟩) ⟨by omega, hcb.2⟩; have HK4 := hid K4; obtain ⟨vv, FF, g1, g2, g3⟩ := J4.first; have e1 := g1.cells.1 0; have e2 := g1.cells.2 0; have e3 := J4.least.cells.1 0; have e4 := J4.least.cells.2 0; have e5 := J4.count.cells.1 0; have e6 := J4.count.cells.2 0; clear g1 g2 g3 J4 K4 o4)
        (first | (simp only [Exit.inBlock, Exit.then]; refine bodyPost_ret (results_none rfl _ _ _) rfl ?_) | refine bodyPost_ret (results_none rfl _ _ _) rfl ?_ | go_end0)
        exact ⟨rfl, by rw [HR.out]; exact HK4.out⟩
    · have hge : 0 ≤ c0 ∧ c0 ≤ c := by omega
      have hd1 : decide (c0 < 0) = false := by simp; omega
      have hd2 : decide (c < c0) = false := by simp; omega
      by_cases heq : c = c0
      · have hq : (c == c0) = true := by simp [heq]
        have HR := hid (show bestSt m l (s1, c0, n0) L = (s1, c0, n0 + 1) from by rw [HST.out, if_neg hlt, if_pos heq])
        have hn1 : n0 ≤ 1099511627776 := HS.out
        have e2 := HJ3.out.count.cells.2 0
        have HK4 := hid (HJ3.out.setN HF.out (x := n0 + 1) (by omega))
        clear hlt heq hge
        go_wp2
        (first | (simp only [Exit.inBlock, Exit.then]; refine bodyPost_ret (results_none rfl _ _ _) rfl ?_) | refine bodyPost_ret (results_none rfl _ _ _) rfl ?_ | go_end0)
        exact ⟨rfl, by rw [HR.out]; exact HK4.out⟩
      · have hq : (c == c0) = false := by simp [heq]
        have HR := hid (show bestSt m l (s1, c0, n0) L = (s1, c0, n0) from by rw [HST.out, if_neg hlt, if_neg heq])
        clear hlt heq hge
        go_wp2
        (first | (simp only [Exit.inBlock, Exit.then]; refine bodyPost_ret (results_none rfl _ _ _) rfl ?_) | refine bodyPost_ret (results_none rfl _ _ _) rfl ?_ | go_end0)
        exact ⟨rfl, by rw [HR.out]; exact HJ3.out⟩

variable (gn gy gl gf : Nat) (hn0 : w0.cell? ⟨gn, 0, none⟩ = some (.int .i64 m.length))
  (hy0 : w0.cell? ⟨gy, 0, none⟩ = some (.func (.func 117) #[] #[.pointer (some ⟨gC, 0, none⟩), .pointer (some ⟨gM, 0, none⟩), .pointer (some ⟨gL, 0, none⟩), .pointer (some ⟨gF, 0, none⟩), .pointer (some ⟨gN, 0, none⟩)]))
  (hl0 : w0.cell? ⟨gl, 0, none⟩ = some (.slice (some ⟨gr, 0, none⟩) m.length m.length))
  (hf0 : w0.cell? ⟨gf, 0, none⟩ = some (.func (.func 135) #[] #[.pointer (some ⟨gn, 0, none⟩), .pointer (some ⟨gy, 0, none⟩), .pointer (some ⟨gl, 0, none⟩), .pointer (some ⟨gf, 0, none⟩)]))
  (nn : gn ∉ [gr, gL, gN, gF]) (ny : gy ∉ [gr, gL, gN, gF]) (nl : gl ∉ [gr, gL, gN, gF]) (nf : gf ∉ [gr, gL, gN, gF])
include hn0 hy0 hl0 hf0 nn ny nl nf
set_option maxHeartbeats 2000000 in
set_option maxRecDepth 20000 in
theorem from_c (r : Nat) : ∀ (i nx : Nat) (L : List Int) (S : List Int × Int × Int) (w : World), i + r = m.length → nx ≤ i → BestJ wE w0 gr gL gN gF m.length w L S → S.2.2 + (leaves r (L.take i) nx).length ≤ 1099511627776 →
    Calls Tryz.prog 135 #[.int .i64 i, .int .i64 nx, .pointer (some ⟨gn, 0, none⟩), .pointer (some ⟨gy, 0, none⟩), .pointer (some ⟨gl, 0, none⟩), .pointer (some ⟨gf, 0, none⟩)] w fun e w2 =>
      e = .returned (.tuple #[]) ∧ ∃ L', L'.take i = L.take i ∧ BestJ wE w0 gr gL gN gF m.length w2 L' ((leaves r (L.take i) nx).foldl (bestSt m l) S) := by
  have h8 := hm.n8
  induction r with
  | zero =>
    intro i nx L S w hi hnx hJ hS
    have hin : i = m.length := by omega
    have e1 := hJ.keep.cell nn hn0
    have e2 := hJ.keep.cell ny hy0
    have e3 := hJ.keep.cell nl hl0
    have HY := hid (yield_c m l hm wE w0 A B cap cap2 gC gM gr gL gN gF f hE hC hc0 hm0 nC nM L S w hJ (by omega))
    have HL := hid (show L.take i = L from List.take_of_length_le (by rw [hJ.len]; omega))
    clear hm hE hC hc0 hm0 nC nM hn0 hy0 hl0 hf0 nn ny nl nf f hS hJ
    subst hin
    go_enter Tryz.func135, Tryz.ntmps135
    go_wp2_with (go_at_call 117; refine (HY.out).mono ?_; rintro e w2 ⟨rfl, J2⟩)
    (first | (simp only [Exit.inBlock, Exit.then]; refine bodyPost_ret (results_none rfl _ _ _) rfl ?_) | refine bodyPost_ret (results_none rfl _ _ _) rfl ?_ | go_end0)
    exact ⟨rfl, L, rfl, by rw [leaves, HL.out]; exact J2⟩
  | succ r ih =>
    intro i nx L S w hi hnx hJ hS
    have hin : i < m.length := by omega
    have hne : ((i : Int) == (m.length : Int)) = false := by rw [beq_eq_false_iff_ne]; omega
    have e1 := hJ.keep.cell nn hn0
    have HIH := hid ih
    have HJ0 := hid hJ
    have HS := hid hS
    have HEQ := hid (show leaves (r + 1) (L.take i) nx = (List.range (nx + 1)).flatMap fun (x : Nat) => leaves r (L.take i ++ [(x : Int)]) (max nx (x + 1)) from rfl)
    have HF := hid f
    have HL0 := hid (fun (W : World) (L : List Int) (S : List Int × Int × Int) (J : BestJ wE w0 gr gL gN gF m.length W L S) => And.intro (J.keep.cell nl hl0) (J.keep.cell nf hf0))
    clear hm hE hC hc0 hm0 nC nM hn0 hy0 hl0 hf0 nn ny nl nf f hS hJ ih
    go_enter Tryz.func135, Tryz.ntmps135
    go_wp2_with fail
    go_loopw [8] (fun t wr => ∃ (x : Nat) (L1 : List Int), x ≤ nx + 1 ∧ t = .int .i64 x ∧ L1.take i = L.take i ∧ BestJ wE w0 gr gL gN gF m.length wr L1 (((List.range x).flatMap fun (x : Nat) => leaves r (L.take i ++ [(x : Int)]) (max nx (x + 1))).foldl (bestSt m l) S)) (fun t _ => nx + 1 - (intOf t).toNat)
    case atStart => exact ⟨0, L, Nat.zero_le _, rfl, rfl, HJ0.out⟩
    case round =>
      clear e1
      obtain ⟨x, L1, hx, rfl, hL1, hJ⟩ := hrel
      by_cases hlt : x ≤ nx
      · have hcnt := fold_count m l ((List.range x).flatMap fun (x : Nat) => leaves r (L.take i ++ [(x : Int)]) (max nx (x + 1))) S HJ0.out.bd.2.2
        have HR := hid (show ((List.range (x + 1)).flatMap fun (x : Nat) => leaves r (L.take i ++ [(x : Int)]) (max nx (x + 1))).foldl (bestSt m l) S = (leaves r (L.take i ++ [(x : Int)]) (max nx (x + 1))).foldl (bestSt m l) (((List.range x).flatMap fun (x : Nat) => leaves r (L.take i ++ [(x : Int)]) (max nx (x + 1))).foldl (bestSt m l) S) from by
          rw [List.range_succ, List.flatMap_append, List.foldl_append]; simp)
        have hlen : ((List.range x).flatMap fun (x : Nat) => leaves r (L.take i ++ [(x : Int)]) (max nx (x + 1))).length + (leaves r (L.take i ++ [(x : Int)]) (max nx (x + 1))).length ≤ (leaves (r + 1) (L.take i) nx).length := by
          rw [HEQ.out, range_split (show x < nx + 1 by omega), List.flatMap_append, List.flatMap_cons, List.length_append, List.length_append]
          omega
        obtain ⟨T, hT⟩ : ∃ T, T = ((List.range x).flatMap fun (x : Nat) => leaves r (L.take i ++ [(x : Int)]) (max nx (x + 1))).foldl (bestSt m l) S := ⟨_, rfl⟩
        rw [← hT] at hJ hcnt HR
        clear hT
        have hJ2 := hJ.setR HF.out hin (x := (x : Int)) (by omega)
        have htk : (L1.set i (x : Int)).take (i + 1) = L.take i ++ [(x : Int)] := by
          rw [take_snocD (by rw [List.length_set, hJ.len]; exact hin), List.take_set, getD_set _ _ _ _ (by rw [hJ.len]; exact hin), if_pos rfl, ← hL1]
          congr 1
          exact List.set_eq_of_length_le (by rw [List.length_take]; omega)
        have HC := hid (HIH.out (i + 1) (max nx (x + 1)) (L1.set i (x : Int)) T _ (by omega) (by omega) hJ2 (by rw [htk]; have := HS.out; omega))
        rw [htk] at HC
        have him : ((i + 1 : Nat) : Int) = (i : Int) + 1 := by omega
        rw [him] at HC
        obtain ⟨a1, _⟩ := HL0.out _ _ _ hJ
        obtain ⟨_, a2⟩ := HL0.out _ _ _ hJ2
        obtain ⟨a3, a4⟩ := blk_at hJ.row (i := i) (by rw [hJ.len]; exact hin)
        have HTK := hid (show ∀ L' : List Int, L'.take (i + 1) = L.take i ++ [(x : Int)] → L'.take i = L.take i from fun L' h => by
          have h9 := congrArg (List.take i) h
          rw [List.take_take, show min i (i + 1) = i by omega] at h9
          rw [h9, List.take_append_of_le_length (by rw [List.length_take, HJ0.out.len]; omega), List.take_take, Nat.min_self])
        by_cases hxe : nx < x + 1
        · have hmx : ((max nx (x + 1) : Nat) : Int) = (x : Int) + 1 := by omega
          rw [hmx] at HC
          have hxe2 : (nx : Int) < (x : Int) + 1 := by omega
          clear hJ hJ2 hcnt hlen htk hmx him hL1 hxe
          go_wp2_with (go_at_call 135; first | (exfalso; omega; done) | (refine (HC.out).mono ?_; rintro e w2 ⟨rfl, L2, hL2, J2⟩))
          go_roundw
          case rel => exact ⟨x + 1, L2, by omega, by go_num, HTK.out L2 hL2, by rw [HR.out]; exact J2⟩
          case measure => simp [intOf]; omega
        · by_cases hxe3 : x + 1 < nx
          · have hmx : ((max nx (x + 1) : Nat) : Int) = (nx : Int) := by omega
            rw [hmx] at HC
            have hxe2 : (x : Int) + 1 < (nx : Int) := by omega
            clear hJ hJ2 hcnt hlen htk hmx him hL1 hxe hxe3
            go_wp2_with (go_at_call 135; first | (exfalso; omega; done) | (refine (HC.out).mono ?_; rintro e w2 ⟨rfl, L2, hL2, J2⟩))
            go_roundw
            case rel => exact ⟨x + 1, L2, by omega, by go_num, HTK.out L2 hL2, by rw [HR.out]; exact J2⟩
            case measure => simp [intOf]; omega
          · have hmx : ((max nx (x + 1) : Nat) : Int) = (x : Int) + 1 := by omega
            rw [hmx] at HC
            have HC2 := HC
            rw [show (x : Int) + 1 = (nx : Int) by omega] at HC2
            have hxe5 : (nx : Int) ≤ (x : Int) + 1 := by omega
            clear hJ hJ2 hcnt hlen htk hmx him hL1 hxe hxe3
            go_wp2_with (go_at_call 135; first | (with_reducible refine (HC.out).mono ?_; rintro e w2 ⟨rfl, L2, hL2, J2⟩) | (with_reducible refine (HC2.out).mono ?_; rintro e w2 ⟨rfl, L2, hL2, J2⟩))
            all_goals
              go_roundw
              case rel => exact ⟨x + 1, L2, by omega, by go_num, HTK.out L2 hL2, by rw [HR.out]; exact J2⟩
              case measure => simp [intOf]; omega
      · have hxn : x = nx + 1 := by omega
        subst hxn
        have HFIN := hid (show BestJ wE w0 gr gL gN gF m.length wr L1 ((leaves (r + 1) (L.take i) nx).foldl (bestSt m l) S) from by rw [HEQ.out]; exact hJ)
        clear hJ
        go_wp2
        (first | (simp only [Exit.inBlock, Exit.then]; refine bodyPost_ret (results_none rfl _ _ _) rfl ?_) | refine bodyPost_ret (results_none rfl _ _ _) rfl ?_ | go_end0)
        exact ⟨rfl, L1, hL1, HFIN.out⟩
end
end Go.Proofs.YtidchfncfcckiaaGreat

namespace Go.Proofs.YtidchfncfcckiaaGreat
open Go.RowKit

/-- a table of bools, filled row by row up to (i, k) -/
def PreB (n : Nat) (R : Nat → Nat → Prop) (i k : Nat) (B : List (List Bool)) : Prop := SqB n B ∧ ∀ a b, a < n → b < n → (entB B a b = true ↔ (a < i ∨ (a = i ∧ b < k)) ∧ R a b)
theorem PreB.start (n : Nat) (R : Nat → Nat → Prop) : PreB n R 0 0 (sqB n) := ⟨sqB_sq n, fun a b ha hb => by
  rw [sqB_ent ha hb]
  exact ⟨fun h => (Bool.noConfusion h), fun h => absurd h.1 (by omega)⟩⟩
theorem PreB.step {n : Nat} {R : Nat → Nat → Prop} {i k : Nat} {B : List (List Bool)} (h : PreB n R i k B) (hi : i < n) (hk : k < n) {x : Bool} (hx : x = true ↔ R i k) : PreB n R i (k + 1) (setB B i k x) := by
  refine ⟨h.1.set hi x, fun a b ha hb => ?_⟩
  rw [entB_set h.1 hi hk]
  by_cases e : a = i ∧ b = k
  · obtain ⟨rfl, rfl⟩ := e
    rw [if_pos ⟨rfl, rfl⟩, hx]
    exact ⟨fun h => ⟨.inr ⟨rfl, Nat.lt_succ_self _⟩, h⟩, fun h => h.2⟩
  · rw [if_neg e, h.2 a b ha hb]
    exact ⟨fun h => ⟨by omega, h.2⟩, fun h => ⟨by omega, h.2⟩⟩
theorem PreB.next {n : Nat} {R : Nat → Nat → Prop} {i : Nat} {B : List (List Bool)} (h : PreB n R i n B) : PreB n R (i + 1) 0 B :=
  ⟨h.1, fun a b ha hb => by
    rw [h.2 a b ha hb]
    exact ⟨fun h => ⟨by omega, h.2⟩, fun h => ⟨by omega, h.2⟩⟩⟩
theorem PreB.fin {n : Nat} {R : Nat → Nat → Prop} {B : List (List Bool)} (h : PreB n R n 0 B) (a b : Nat) (ha : a < n) (hb : b < n) : entB B a b = true ↔ R a b := by
  rw [h.2 a b ha hb]
  exact ⟨fun h => h.2, fun h => ⟨.inl ha, h⟩⟩
theorem OwnSl.formB {w : World} {v : Value} {B : List (List Bool)} {F : List Nat} {n : Nat} (h : OwnSl (slO boolO) w v B F) (hN : F.Nodup) (hs : SqB n B) (hn : 0 < n) : ∃ G O c, v = .slice (some ⟨G, O, none⟩) n c ∧ G ∈ F := by
  obtain ⟨g, off, cap, c, F1, eV, hg, _⟩ := h.elem hN (i := 0) (by rw [hs.1]; exact hn)
  rw [hs.1] at eV
  exact ⟨g, off, cap, eV, hg⟩

set_option maxHeartbeats 2000000 in
set_option maxRecDepth 20000 in
theorem spec_PositiveComponents (v : Value) (m : List (List Int)) (w : World) (h : Sl (slR intR) w v m) :
    Calls Tryz.prog 62 #[v] w fun e w2 => ∃ v2 F, e = .returned v2 ∧ OwnSl intO w2 v2 (posC m) F ∧ NewF w F ∧ Ext w w2 := by
  have HWM := hid (spec_IsWeightMatrix v m w h)
  obtain ⟨A, cap, rfl, hml⟩ := h.form
  cases hw : wmB m with
  | false =>
    have HP := hid (show posC m = [] from by unfold posC; rw [hw]; rfl)
    rw [hw] at HWM
    clear h
    go_enter Tryz.func62, Tryz.ntmps62
    go_wp2_with fail
    refine (HWM.out).mono ?_
    rintro e w2 ⟨rfl, x2⟩
    go_wp2
    go_ret
    exact ⟨_, [], rfl, by rw [HP.out]; exact .inl ⟨rfl, rfl, _, _, rfl, Nat.zero_le _⟩, ⟨List.nodup_nil, fun b hb => by cases hb⟩, x2.alloc _⟩
  | true =>
    have hm := wmB_iff.1 hw
    rw [hw] at HWM
    have HP := hid (show posC m = compL m.length (linkM m) from by unfold posC; rw [hw]; rfl)
    have HT := hid (fun (p q : Nat) (hp : p < m.length) (hq : q < m.length) => mat_cells h hm hp hq)
    obtain ⟨n, hn⟩ : ∃ n, n = m.length := ⟨_, rfl⟩
    obtain ⟨R, hR⟩ : ∃ R, R = linkM m := ⟨_, rfl⟩
    have HR := hid (show (∀ a b, R a b → R b a) ∧ (∀ a b, R a b → a < n ∧ b < n) ∧ ∀ a b, a < n → b < n → ((decide (0 < ent m a b)) = true ↔ R a b) from by
      subst hn
      subst hR
      exact ⟨fun a b h => linkM_symm hm h, fun a b h => ⟨h.1, h.2.1⟩, fun a b ha hb => by rw [decide_eq_true_eq]; exact ⟨fun h => ⟨ha, hb, h⟩, fun h => h.2.2⟩⟩)
    have hn18 : 1 ≤ n ∧ n ≤ 8 := by rw [hn]; exact ⟨hm.n1, hm.n8⟩
    rw [← hR, ← hn] at HP
    rw [← hn] at HT HWM ⊢
    obtain ⟨hn1, hn8⟩ := hn18
    have HL := hid (fun (W : World) => spec_l17Links n W hn8)
    have HLB := hid (fun (W : World) (v : Value) (B : List (List Bool)) (q : Sl (slR boolR) W v B) (hs : SqB n B) (hl : ∀ a b, a < n → b < n → (entB B a b = true ↔ R a b)) => spec_l17Labels HR.out.1 HR.out.2.1 v B W q hs hl hn8)
    clear h hm hw hml hR hn
    go_enter Tryz.func62, Tryz.ntmps62
    go_wp2_with fail
    refine (HWM.out).mono ?_
    rintro e w1 ⟨rfl, x1⟩
    go_wp2_with fail
    refine (HL.out _).mono ?_
    rintro e w2 ⟨v2, F2, rfl, o2, n2, x2⟩
    obtain ⟨G0, O0, c0, rfl, _⟩ := o2.formB n2.1 (sqB_sq n) hn1
    have HO := hid o2
    have HN2 := hid (show NewF w F2 from ⟨n2.1, fun b hb => Nat.le_trans x1.size (n2.2 b hb)⟩)
    have HX := hid (x1.trans x2)
    clear o2 n2 x1 x2
    go_wp2_with fail
    go_loopw [4] (fun t wr => ∃ (i : Nat) (B : List (List Bool)), i ≤ n ∧ t = .int .i64 i ∧ PreB n R i 0 B ∧ OwnSl (slO boolO) wr (.slice (some ⟨G0, O0, none⟩) n c0) B F2 ∧ Ext w wr) (fun t _ => n - (intOf t).toNat)
    case atStart => exact ⟨0, _, Nat.zero_le _, rfl, PreB.start n R, HO.out, HX.out⟩
    case round =>
      clear HO HX
      obtain ⟨i, B, hi, rfl, hS, o, hx⟩ := hrel
      by_cases hil : i < n
      · have HS := hid hS
        have HO := hid o
        have HX := hid hx
        clear hS o hx
        go_wp2_with fail
        go_loopw [5] (fun t wr => ∃ (q : Nat) (B : List (List Bool)), q ≤ n ∧ t = .int .i64 q ∧ PreB n R i q B ∧ OwnSl (slO boolO) wr (.slice (some ⟨G0, O0, none⟩) n c0) B F2 ∧ Ext w wr) (fun t _ => n - (intOf t).toNat)
        case atStart => exact ⟨0, B, Nat.zero_le _, rfl, HS.out, HO.out, HX.out⟩
        case round =>
          clear HS HO HX
          obtain ⟨q, B, hq, rfl, hS, o, hx⟩ := hrel
          by_cases hql : q < n
          · obtain ⟨wd, hwd⟩ : ∃ wd : World, wd = wr.drew := ⟨_, rfl⟩
            have hx : Ext w wd := by rw [hwd]; exact hx.drew
            have o : OwnSl (slO boolO) wd (.slice (some ⟨G0, O0, none⟩) n c0) B F2 := by rw [hwd]; exact o.ext (Ext.refl _).drew
            obtain ⟨b1, o1, cp1, cA, cB, fB, hb1, _, st⟩ := o.tabB HN2.out.1 hS.1 hil hql
            obtain ⟨bm, om, br, or, cr, eA, ht⟩ := HT.out i q hil hql
            obtain ⟨ct, cq⟩ := ht wd hx
            have HW := hid hwd
            subst eA
            have HST := hid (hS.step hil hql (HR.out.2.2 i q hil hql))
            have HO := hid (st (decide (0 < ent m i q)))
            have HXS := hid (hx.setCell (p := ⟨b1, o1 + q, none⟩) (HN2.out.2 b1 hb1) (.bool (decide (0 < ent m i q))))
            obtain ⟨x, hxe⟩ : ∃ x, x = ent m i q := ⟨_, rfl⟩
            rw [← hxe] at cq HST HO HXS
            clear hS o ht st hxe hx hb1 hwd
            go_wp2_with fail
            refine wp_region_tail 14 HW.out (by kernel_rfl) (by kernel_rfl) ?_
            simp only [List.take_succ_cons, List.take_zero, List.drop_succ_cons, List.drop_zero]
            repeat (first | go_big_quiet_step ((fail)) | (go_big_quiet_want; go_big_quiet_op; apply Exists.intro; refine ⟨?_, ?_⟩; (fail); go_big_quiet_on))
            refine wpQuiet_nil ?_
            go_wp2
            go_roundw
            case rel => exact ⟨q + 1, _, by omega, by go_num, HST.out, HO.out, HXS.out⟩
            case measure => simp [intOf]; omega
          · have hqn : q = n := by omega
            subst hqn
            have HN := hid hS.next
            clear hS
            go_wp2
            go_roundw
            case rel => exact ⟨i + 1, B, by omega, by go_num, HN.out, o, hx⟩
            case measure => simp [intOf]; omega
      · have hin : i = n := by omega
        subst hin
        have HC := hid (HLB.out _ _ B o.sl hS.1 hS.fin)
        clear hS o
        go_wp2_with fail
        refine (HC.out).mono ?_
        rintro e w3 ⟨v3, F3, rfl, o3, n3, x3⟩
        go_wp2
        go_ret
        exact ⟨v3, F3, rfl, by rw [HP.out]; exact o3, ⟨n3.1, fun b hb => Nat.le_trans hx.size (n3.2 b hb)⟩, hx.trans x3⟩
end Go.Proofs.YtidchfncfcckiaaGreat

namespace Go.Proofs.YtidchfncfcckiaaGreat
open Go.RowKit

set_option maxHeartbeats 2000000 in
set_option maxRecDepth 20000 in
theorem each_c (m : List (List Int)) (l : List Constraint) (hm : WM m) (wE w1 : World) (A B : Option Addr) (cap cap2 gC gM gL gN gF : Nat)
    (hE : Sl (slR intR) wE (.slice A m.length cap) m) (hC : Sl constraintR wE (.slice B l.length cap2) l) (hx : Ext wE w1)
    (hc0 : w1.cell? ⟨gC, 0, none⟩ = some (.slice B l.length cap2)) (hm0 : w1.cell? ⟨gM, 0, none⟩ = some (.slice A m.length cap))
    (bL : Blk w1 gL 3 [.int .i64 (-1)]) (bN : Blk w1 gN 3 [.int .i64 0]) (bF : Blk w1 gF 28 [.slice none 0 0])
    (d1 : gL ≠ gN) (d2 : gL ≠ gF) (d3 : gN ≠ gF) (nC : gC ∉ [gL, gN, gF]) (nM : gM ∉ [gL, gN, gF]) (eL : wE.heap.size ≤ gL) (eN : wE.heap.size ≤ gN) (eF : wE.heap.size ≤ gF) :
    Calls Tryz.prog 116 #[.int .i64 m.length, .func (.func 117) #[] #[.pointer (some ⟨gC, 0, none⟩), .pointer (some ⟨gM, 0, none⟩), .pointer (some ⟨gL, 0, none⟩), .pointer (some ⟨gF, 0, none⟩), .pointer (some ⟨gN, 0, none⟩)]] w1 fun e w2 =>
      e = .returned (.tuple #[]) ∧ ∃ v F, w2.cell? ⟨gF, 0, none⟩ = some v ∧ OwnSl intO w2 v (bestF m l).1 F ∧ NewF w1 F ∧ w2.cell? ⟨gL, 0, none⟩ = some (.int .i64 (bestF m l).2.1) ∧ w2.cell? ⟨gN, 0, none⟩ = some (.int .i64 (bestF m l).2.2) ∧ Ext wE w2 := by
  have h8 := hm.n8
  have lL := block_lt bL
  have lN := block_lt bN
  have lF := block_lt bF
  have lC := World.block_lt_of_cell? w1 _ hc0
  have lM := World.block_lt_of_cell? w1 _ hm0
  dsimp only at lC lM
  obtain ⟨i1, hi1, hz3, hz4, hz5⟩ := info_parts infoInt
  have hmk1 := run_mk (P := Tryz.prog) 28 3 i1 _ [.int .i64 0] 8 Tryz.underlying28 hi1 hz3 rfl hz4 hz5 m.length (by omega) (by omega)
  rw [flat_rep] at hmk1
  obtain ⟨Z, hZ⟩ : ∃ Z, Z = (List.replicate m.length (Value.int .i64 0)).toArray := ⟨_, rfl⟩
  rw [← hZ] at hmk1
  have HZ := hid (show Z.toList = (List.replicate m.length (0 : Int)).map (Value.int .i64) from by rw [hZ]; simp)
  have HH := hid (And.intro hm (And.intro hE (And.intro hC (And.intro hx (And.intro hc0 (And.intro hm0 (And.intro bL (And.intro bN bF))))))))
  have HD := hid (And.intro d1 (And.intro d2 (And.intro d3 (And.intro nC (And.intro nM (And.intro eL (And.intro eN eF)))))))
  have HG := hid (And.intro lL (And.intro lN (And.intro lF (And.intro lC lM))))
  clear hm hE hC hx hc0 hm0 bL bN bF d1 d2 d3 nC nM eL eN eF lL lN lF lC lM hi1 hz3 hz4 hz5 hZ
  go_enter Tryz.func116, Tryz.ntmps116
  go_wp2_with fail
  obtain ⟨A1, hA1⟩ : ∃ W, W = w1.alloc (.cells #[.int .i64 m.length] 3) := ⟨_, rfl⟩
  obtain ⟨A2, hA2⟩ : ∃ W, W = A1.alloc (.cells #[(.func (.func 117) #[] #[.pointer (some ⟨gC, 0, none⟩), .pointer (some ⟨gM, 0, none⟩), .pointer (some ⟨gL, 0, none⟩), .pointer (some ⟨gF, 0, none⟩), .pointer (some ⟨gN, 0, none⟩)])] 122) := ⟨_, rfl⟩
  obtain ⟨A3, hA3⟩ : ∃ W, W = A2.alloc (.cells Z 3) := ⟨_, rfl⟩
  obtain ⟨A4, hA4⟩ : ∃ W, W = A3.alloc (.cells #[.slice (some ⟨w1.heap.size + 1 + 1, 0, none⟩) m.length m.length] 28) := ⟨_, rfl⟩
  obtain ⟨W0, hW0⟩ : ∃ W, W = A4.alloc (.cells #[(.func (.func 135) #[] #[.pointer (some ⟨w1.heap.size, 0, none⟩), .pointer (some ⟨w1.heap.size + 1, 0, none⟩), .pointer (some ⟨w1.heap.size + 1 + 1 + 1, 0, none⟩), .pointer (some ⟨w1.heap.size + 1 + 1 + 1 + 1, 0, none⟩)])] 136) := ⟨_, rfl⟩
  rw [← hA1, ← hA2, ← hA3, ← hA4, ← hW0]
  have s1 : A1.heap.size = w1.heap.size + 1 := by rw [hA1]; simp
  have s2 : A2.heap.size = w1.heap.size + 1 + 1 := by rw [hA2, World.size_alloc, s1]
  have s3 : A3.heap.size = w1.heap.size + 1 + 1 + 1 := by rw [hA3, World.size_alloc, s2]
  have s4 : A4.heap.size = w1.heap.size + 1 + 1 + 1 + 1 := by rw [hA4, World.size_alloc, s3]
  have s5 : W0.heap.size = w1.heap.size + 1 + 1 + 1 + 1 + 1 := by rw [hW0, World.size_alloc, s4]
  have b1 : Blk A1 w1.heap.size 3 [.int .i64 m.length] := by rw [hA1]; exact Blk.new w1 3 #[.int .i64 m.length]
  have b2 : Blk A2 (w1.heap.size + 1) 122 [(.func (.func 117) #[] #[.pointer (some ⟨gC, 0, none⟩), .pointer (some ⟨gM, 0, none⟩), .pointer (some ⟨gL, 0, none⟩), .pointer (some ⟨gF, 0, none⟩), .pointer (some ⟨gN, 0, none⟩)])] := by rw [hA2, ← s1]; exact Blk.new A1 122 #[(.func (.func 117) #[] #[.pointer (some ⟨gC, 0, none⟩), .pointer (some ⟨gM, 0, none⟩), .pointer (some ⟨gL, 0, none⟩), .pointer (some ⟨gF, 0, none⟩), .pointer (some ⟨gN, 0, none⟩)])]
  have b3 : Blk A3 (w1.heap.size + 1 + 1) 3 Z.toList := by rw [hA3, ← s2]; exact Blk.new A2 3 Z
  have b4 : Blk A4 (w1.heap.size + 1 + 1 + 1) 28 [.slice (some ⟨w1.heap.size + 1 + 1, 0, none⟩) m.length m.length] := by rw [hA4, ← s3]; exact Blk.new A3 28 #[.slice (some ⟨w1.heap.size + 1 + 1, 0, none⟩) m.length m.length]
  have b5 : Blk W0 (w1.heap.size + 1 + 1 + 1 + 1) 136 [(.func (.func 135) #[] #[.pointer (some ⟨w1.heap.size, 0, none⟩), .pointer (some ⟨w1.heap.size + 1, 0, none⟩), .pointer (some ⟨w1.heap.size + 1 + 1 + 1, 0, none⟩), .pointer (some ⟨w1.heap.size + 1 + 1 + 1 + 1, 0, none⟩)])] := by have h9 := Blk.new A4 136 #[(.func (.func 135) #[] #[.pointer (some ⟨w1.heap.size, 0, none⟩), .pointer (some ⟨w1.heap.size + 1, 0, none⟩), .pointer (some ⟨w1.heap.size + 1 + 1 + 1, 0, none⟩), .pointer (some ⟨w1.heap.size + 1 + 1 + 1 + 1, 0, none⟩)])]; rw [s4] at h9; rw [hW0]; exact h9
  have x5 : Ext A4 W0 := by rw [hW0]; exact (Ext.refl _).alloc _
  have x4 : Ext A3 W0 := Ext.trans (by rw [hA4]; exact (Ext.refl _).alloc _) x5
  have x3 : Ext A2 W0 := Ext.trans (by rw [hA3]; exact (Ext.refl _).alloc _) x4
  have x2 : Ext A1 W0 := Ext.trans (by rw [hA2]; exact (Ext.refl _).alloc _) x3
  have x1 : Ext w1 W0 := Ext.trans (by rw [hA1]; exact (Ext.refl _).alloc _) x2
  obtain ⟨hm, hE, hC, hx, hc0, hm0, bL, bN, bF⟩ := HH.out
  obtain ⟨d1, d2, d3, nC, nM, eL, eN, eF⟩ := HD.out
  obtain ⟨lL, lN, lF, lC, lM⟩ := HG.out
  have c1 := (b1.ext x2).cells.1 0
  have c2 := (b2.ext x3).cells.1 0
  have c3 := b3.ext x4
  have c4 := (b4.ext x5).cells.1 0
  have c5 := b5.cells.1 0
  rw [HZ.out] at c3
  simp only [List.mem_cons, List.not_mem_nil, or_false, not_or] at nC nM
  have hf : Four wE W0 (w1.heap.size + 1 + 1) gL gN gF := by
    have := hx.size
    constructor <;> first | assumption | omega
  have hJ : BestJ wE W0 (w1.heap.size + 1 + 1) gL gN gF m.length W0 (List.replicate m.length 0) ([], -1, 0) :=
    ⟨List.length_replicate, fun x hx => by have := List.eq_of_mem_replicate hx; omega, c3, bL.ext x1, bN.ext x1, ⟨_, [], bF.ext x1, .inl ⟨rfl, rfl, none, 0, rfl, Nat.zero_le _⟩, .nil _⟩, hx.trans x1, KeepB.refl _ _, by decide⟩
  have HC := hid (from_c m l hm wE W0 A B cap cap2 gC gM (w1.heap.size + 1 + 1) gL gN gF hf hE hC (x1.cell hc0) (x1.cell hm0) (by simp only [List.mem_cons, List.not_mem_nil, or_false, not_or]; omega) (by simp only [List.mem_cons, List.not_mem_nil, or_false, not_or]; omega)
    w1.heap.size (w1.heap.size + 1) (w1.heap.size + 1 + 1 + 1) (w1.heap.size + 1 + 1 + 1 + 1) c1 c2 c4 c5
    (by simp only [List.mem_cons, List.not_mem_nil, or_false, not_or]; omega) (by simp only [List.mem_cons, List.not_mem_nil, or_false, not_or]; omega) (by simp only [List.mem_cons, List.not_mem_nil, or_false, not_or]; omega) (by simp only [List.mem_cons, List.not_mem_nil, or_false, not_or]; omega)
    m.length 0 0 _ _ W0 (by omega) (Nat.le_refl _) hJ (by have := leaves_bd hm.n8; rw [List.take_zero]; show (0 : Int) + _ ≤ _; omega))
  have HB := hid (show (leaves m.length (List.take 0 (List.replicate m.length (0 : Int))) 0).foldl (bestSt m l) ([], -1, 0) = bestF m l from by rw [List.take_zero]; rfl)
  rw [HB.out] at HC
  refine (HC.out).mono ?_
  rintro e w2 ⟨rfl, L', _, hJ2⟩
  obtain ⟨v, F, f1, f2, f3⟩ := hJ2.first
  have HR := hid (⟨v, F, f1.cells.1 0, f2, ⟨f3.1, fun b hb => by have := f3.2 b hb; omega⟩, hJ2.least.cells.1 0, hJ2.count.cells.1 0, hJ2.ext⟩ : ∃ v F, w2.cell? ⟨gF, 0, none⟩ = some v ∧ OwnSl intO w2 v (bestF m l).1 F ∧ NewF w1 F ∧ w2.cell? ⟨gL, 0, none⟩ = some (.int .i64 (bestF m l).2.1) ∧ w2.cell? ⟨gN, 0, none⟩ = some (.int .i64 (bestF m l).2.2) ∧ Ext wE w2)
  go_wp2
  (first | (simp only [Exit.inBlock, Exit.then]; refine bodyPost_ret (results_none rfl _ _ _) rfl ?_) | refine bodyPost_ret (results_none rfl _ _ _) rfl ?_ | go_end0)
  exact ⟨rfl, HR.out⟩

set_option maxHeartbeats 1000000 in
set_option maxRecDepth 20000 in
theorem impl_best (v u : Value) (m : List (List Int)) (l : List Constraint) (w : World) (h : Sl (slR intR) w v m) (k : Sl constraintR w u l) (hm : WM m) :
    Calls Tryz.prog 70 #[v, u] w fun e w2 => ∃ v2 F, e = .returned (.tuple #[v2, .int .i64 (bestF m l).2.1, .int .i64 (bestF m l).2.2]) ∧ OwnSl intO w2 v2 (bestF m l).1 F ∧ NewF w F ∧ Ext w w2 := by
  obtain ⟨A, cap, rfl, hm1⟩ := h.form
  obtain ⟨B, cap2, rfl, hm2⟩ := k.form
  have HM := hid hm
  have HH := hid h
  have HK := hid k
  clear hm h k
  go_enter Tryz.func70, Tryz.ntmps70
  go_wp2_with fail
  obtain ⟨A1, hA1⟩ : ∃ W, W = w.alloc (.cells #[.slice A m.length cap] 24) := ⟨_, rfl⟩
  obtain ⟨A2, hA2⟩ : ∃ W, W = A1.alloc (.cells #[.slice B l.length cap2] 25) := ⟨_, rfl⟩
  obtain ⟨A3, hA3⟩ : ∃ W, W = A2.alloc (.cells #[.slice none 0 0] 28) := ⟨_, rfl⟩
  obtain ⟨A4, hA4⟩ : ∃ W, W = A3.alloc (.cells #[.int .i64 (-1)] 3) := ⟨_, rfl⟩
  obtain ⟨W0, hW0⟩ : ∃ W, W = A4.alloc (.cells #[.int .i64 0] 3) := ⟨_, rfl⟩
  rw [← hA1, ← hA2, ← hA3, ← hA4, ← hW0]
  have s1 : A1.heap.size = w.heap.size + 1 := by rw [hA1]; simp
  have s2 : A2.heap.size = w.heap.size + 1 + 1 := by rw [hA2, World.size_alloc, s1]
  have s3 : A3.heap.size = w.heap.size + 1 + 1 + 1 := by rw [hA3, World.size_alloc, s2]
  have s4 : A4.heap.size = w.heap.size + 1 + 1 + 1 + 1 := by rw [hA4, World.size_alloc, s3]
  have s5 : W0.heap.size = w.heap.size + 1 + 1 + 1 + 1 + 1 := by rw [hW0, World.size_alloc, s4]
  have b1 : Blk A1 w.heap.size 24 [.slice A m.length cap] := by rw [hA1]; exact Blk.new w 24 #[.slice A m.length cap]
  have b2 : Blk A2 (w.heap.size + 1) 25 [.slice B l.length cap2] := by rw [hA2, ← s1]; exact Blk.new A1 25 #[.slice B l.length cap2]
  have b3 : Blk A3 (w.heap.size + 1 + 1) 28 [.slice none 0 0] := by rw [hA3, ← s2]; exact Blk.new A2 28 #[.slice none 0 0]
  have b4 : Blk A4 (w.heap.size + 1 + 1 + 1) 3 [.int .i64 (-1)] := by rw [hA4, ← s3]; exact Blk.new A3 3 #[.int .i64 (-1)]
  have b5 : Blk W0 (w.heap.size + 1 + 1 + 1 + 1) 3 [.int .i64 0] := by rw [hW0, ← s4]; exact Blk.new A4 3 #[.int .i64 0]
  have x5 : Ext A4 W0 := by rw [hW0]; exact (Ext.refl _).alloc _
  have x4 : Ext A3 W0 := Ext.trans (by rw [hA4]; exact (Ext.refl _).alloc _) x5
  have x3 : Ext A2 W0 := Ext.trans (by rw [hA3]; exact (Ext.refl _).alloc _) x4
  have x2 : Ext A1 W0 := Ext.trans (by rw [hA2]; exact (Ext.refl _).alloc _) x3
  have x1 : Ext w W0 := Ext.trans (by rw [hA1]; exact (Ext.refl _).alloc _) x2
  have HC := hid (each_c m l HM.out w W0 A B cap cap2 (w.heap.size + 1) w.heap.size (w.heap.size + 1 + 1 + 1) (w.heap.size + 1 + 1 + 1 + 1) (w.heap.size + 1 + 1) HH.out HK.out x1 ((b2.ext x3).cells.1 0) ((b1.ext x2).cells.1 0) (b4.ext x5) b5 (b3.ext x4)
    (by omega) (by omega) (by omega) (by simp only [List.mem_cons, List.not_mem_nil, or_false, not_or]; omega) (by simp only [List.mem_cons, List.not_mem_nil, or_false, not_or]; omega) (by omega) (by omega) (by omega))
  refine (HC.out).mono ?_
  rintro e w2 ⟨rfl, v2, F2, q1, o2, n2, q2, q3, y2⟩
  have y1 : ∀ z : ExtOf w2, z.1.cell? ⟨w.heap.size + 1 + 1, 0, none⟩ = some v2 := fun z => z.2.cell q1
  have y3 : ∀ z : ExtOf w2, z.1.cell? ⟨w.heap.size + 1 + 1 + 1, 0, none⟩ = some (.int .i64 (bestF m l).2.1) := fun z => z.2.cell q2
  have y4 : ∀ z : ExtOf w2, z.1.cell? ⟨w.heap.size + 1 + 1 + 1 + 1, 0, none⟩ = some (.int .i64 (bestF m l).2.2) := fun z => z.2.cell q3
  have HR := hid (And.intro o2 (And.intro (n2.ext x1) y2))
  obtain ⟨A9, c9, e9, _⟩ := o2.form
  subst e9
  clear b1 b2 b3 b4 b5 x1 x2 x3 x4 x5 s1 s2 s3 s4 s5 hA1 hA2 hA3 hA4 hW0 HC o2 n2 q1 q2 q3 y2
  go_wp2_with fail
  refine wp_region_ext (by kernel_rfl) (by kernel_rfl) ?_
  repeat (go_big_quiet_step ((fail)))
  refine wpQuiet_nil ?_
  rintro w5 ⟨⟨_, x5⟩, rfl⟩
  go_wp2_with fail
  refine bodyPost_ret (v := .tuple #[.slice A9 (bestF m l).1.length c9, .int .i64 (bestF m l).2.1, .int .i64 (bestF m l).2.2]) (by simp [results, Tryz.results70, go_sem]) rfl ?_
  exact ⟨_, F2, rfl, HR.out.1.ext x5, HR.out.2.1, HR.out.2.2.trans x5⟩
end Go.Proofs.YtidchfncfcckiaaGreat

namespace Go.Proofs.YtidchfncfcckiaaGreat
open Go.RowKit

theorem areCon_no {n : Int} {l : List Constraint} {c : Constraint} (hc : c ∈ l) (h : conOk n c = false) : areConB n l = false := by
  cases hb : areConB n l with
  | false => rfl
  | true =>
    unfold areConB at hb
    simp only [Bool.and_eq_true, List.all_eq_true] at hb
    rw [hb.2 c hc] at h
    cases h
theorem areCon_all {n : Int} {l : List Constraint} (h : 1 ≤ n ∧ n ≤ 8) (hl : ∀ c ∈ l, conOk n c = true) : areConB n l = decide (l.length ≤ 10) := by
  unfold areConB
  rw [decide_eq_true h.1, decide_eq_true h.2, Bool.true_and, Bool.true_and, List.all_eq_true.2 hl, Bool.and_true]
theorem conOk_in (n : Int) (c : Constraint) : conOk n c = (inB c.a 0 (n - 1) && inB c.b 0 (n - 1) && decide (c.a < c.b)) := by
  unfold conOk inB
  rw [Bool.eq_iff_iff]
  simp only [Bool.and_eq_true, decide_eq_true_eq]
  omega

set_option maxHeartbeats 8000000 in
set_option maxRecDepth 20000 in
theorem spec_AreConstraints (n : Nat) (v : Value) (l : List Constraint) (w : World) (h : Sl constraintR w v l) (hn : 1 ≤ n ∧ n ≤ 8) :
    Calls Tryz.prog 60 #[.int .i64 n, v] w fun e w2 => e = .returned (.bool (areConB n l)) ∧ Ext w w2 := by
  obtain ⟨A, cap, rfl, hm⟩ := h.form
  have HW := hid (fun (W : World) => spec_l1In (n : Int) 1 8 W)
  have hin : inB (n : Int) 1 8 = true := by unfold inB; rw [decide_eq_true_eq]; omega
  rw [hin] at HW
  clear hin
  go_enter Tryz.func60, Tryz.ntmps60
  go_wp2
  go_loopw [5] (fun t wr => ∃ k : Nat, k ≤ l.length ∧ t = .int .i64 k ∧ (∀ c ∈ l.take k, conOk n c = true) ∧ Ext w wr) (fun t _ => l.length - (intOf t).toNat)
  case atStart => exact ⟨0, Nat.zero_le _, rfl, fun c hc => absurd hc (by simp), Ext.refl _⟩
  case round =>
    obtain ⟨k, hk, rfl, hok, hx⟩ := hrel
    have HOK := hid hok
    clear hok
    by_cases hlt : k < l.length
    · obtain ⟨b, off, rfl, hokk, d0, d1, d2⟩ := (h.mono hx).constraint hlt
      have hco := conOk_in n l[k]
      have HMEM := hid (List.getElem_mem hlt)
      have HTK := hid (List.take_succ_eq_append_getElem hlt)
      obtain ⟨c, hc⟩ : ∃ c, c = l[k] := ⟨_, rfl⟩
      rw [← hc] at hco HMEM HTK hokk d0 d1 d2
      clear hc
      have y0 := fun (z : ExtOf wr) => z.2.cell d0
      have y1 := fun (z : ExtOf wr) => z.2.cell d1
      have HA := hid (fun (W : World) => spec_l1In c.a 0 ((n : Int) - 1) W)
      have HB := hid (fun (W : World) => spec_l1In c.b 0 ((n : Int) - 1) W)
      obtain ⟨p, hp⟩ : ∃ p, p = inB c.a 0 ((n : Int) - 1) := ⟨_, rfl⟩
      obtain ⟨q, hq⟩ : ∃ q, q = inB c.b 0 ((n : Int) - 1) := ⟨_, rfl⟩
      rw [← hp] at HA hco
      rw [← hq] at HB hco
      have HX := hid hx
      clear hp hq d0 d1 d2 hokk hx
      cases p with
      | false =>
        have HN := hid (areCon_no (n := n) HMEM.out (by rw [hco]; rfl))
        clear hco
        go_wp2_with fail
        refine wp_region_ext (by kernel_rfl) (by kernel_rfl) ?_
        repeat (go_big_quiet_step (((first | (go_at_call 92; with_reducible exact quiet_same (HA.out _)) | (go_at_call 92; with_reducible exact quiet_same (HB.out _))))))
        refine wpQuiet_nil ?_
        rintro w5 ⟨⟨_, x5⟩, rfl⟩
        go_wp2
        go_ret
        exact ⟨ret_bool HN.out.symm, HX.out.trans x5⟩
      | true =>
        cases q with
        | false =>
          have HN := hid (areCon_no (n := n) HMEM.out (by rw [hco]; rfl))
          clear hco
          go_wp2_with fail
          refine wp_region_ext (by kernel_rfl) (by kernel_rfl) ?_
          repeat (go_big_quiet_step (((first | (go_at_call 92; with_reducible exact quiet_same (HA.out _)) | (go_at_call 92; with_reducible exact quiet_same (HB.out _))))))
          refine wpQuiet_nil ?_
          rintro w5 ⟨⟨_, x5⟩, rfl⟩
          go_wp2
          go_ret
          exact ⟨ret_bool HN.out.symm, HX.out.trans x5⟩
        | true =>
          by_cases hab : c.a < c.b
          · have HY := hid (show conOk n c = true from by rw [hco, decide_eq_true hab]; rfl)
            have hab2 : ¬ c.b ≤ c.a := by omega
            clear hco
            go_wp2_with fail
            refine wp_region_ext (by kernel_rfl) (by kernel_rfl) ?_
            repeat (go_big_quiet_step (((first | (go_at_call 92; with_reducible exact quiet_same (HA.out _)) | (go_at_call 92; with_reducible exact quiet_same (HB.out _))))))
            refine wpQuiet_nil ?_
            rintro w5 ⟨⟨_, x5⟩, rfl⟩
            go_wp2
            go_roundw
            case rel => exact ⟨k + 1, by omega, by go_num, fun x hx => by
              rw [HTK.out] at hx
              rcases List.mem_append.1 hx with hx | hx
              · exact HOK.out x hx
              · rw [List.mem_singleton] at hx; subst hx; exact HY.out, HX.out.trans x5⟩
            case measure => simp [intOf]; omega
          · have HN := hid (areCon_no (n := n) HMEM.out (by rw [hco, decide_eq_false hab]; rfl))
            have hab2 : c.b ≤ c.a := by omega
            clear hco hab
            go_wp2_with fail
            refine wp_region_ext (by kernel_rfl) (by kernel_rfl) ?_
            repeat (go_big_quiet_step (((first | (go_at_call 92; with_reducible exact quiet_same (HA.out _)) | (go_at_call 92; with_reducible exact quiet_same (HB.out _))))))
            refine wpQuiet_nil ?_
            rintro w5 ⟨⟨_, x5⟩, rfl⟩
            go_wp2
            go_ret
            exact ⟨ret_bool HN.out.symm, HX.out.trans x5⟩
    · have hkl : k = l.length := by omega
      subst hkl
      have HV := hid (show areConB n l = decide ((l.length : Int) ≤ 10) from by
        rw [areCon_all (n := n) (by omega) (fun c hc => HOK.out c (by rw [List.take_length]; exact hc)), Bool.eq_iff_iff, decide_eq_true_eq, decide_eq_true_eq]
        omega)
      go_wp2_with (go_at_call 92; refine (HW.out _).mono ?_; rintro e w2 ⟨rfl, rfl⟩)
      go_ret
      exact ⟨ret_bool HV.out.symm, hx⟩

end Go.Proofs.YtidchfncfcckiaaGreat

namespace Go.Proofs.YtidchfncfcckiaaGreat
open Go.RowKit

set_option maxHeartbeats 400000 in
set_option maxRecDepth 20000 in
theorem spec_IsPartition (v : Value) (l : List Int) (w : World) (h : Sl intR w v l) :
    Calls Tryz.prog 94 #[v] w fun e w2 => e = .returned (.bool (partB l)) ∧ w = w2 := by
  obtain ⟨A, cap, rfl, hm⟩ := h.form
  have HLEN := hid (fun (W : World) => spec_l1In (l.length : Int) 1 8 W)
  go_enter Tryz.func94, Tryz.ntmps94
  go_wp2
  go_loop [3, 4] (fun nx i => ∃ k : Nat, k ≤ l.length ∧ i = .int .i64 k ∧ RG (l.take k) ∧ nx = .int .i64 (nextOf (l.take k) - 1)) (fun _ i => l.length - (intOf i).toNat)
  case atStart => exact ⟨0, Nat.zero_le _, rfl, RG.nil, rfl⟩
  case round =>
    obtain ⟨k, hk, rfl, hg, rfl⟩ := hrel
    have HG := hid hg
    have hb := RG.next_le hg hk
    clear hg
    by_cases hlt : k < l.length
    · obtain ⟨b, off, rfl, hi, hc⟩ := h.int hlt
      have HN := hid (nextOf_take hlt)
      have HB := hid (fun hn => partB_no (RG.bad hlt hn))
      have HS := hid (fun h0 h1 => RG.step hlt HG.out h0 h1)
      obtain ⟨nx, hnx⟩ : ∃ nx, nx = nextOf (l.take k) - 1 := ⟨_, rfl⟩
      rw [show nextOf (l.take k) = nx + 1 by omega] at HN HB HS hb
      rw [← hnx]
      obtain ⟨x, hx⟩ : ∃ x, x = l[k] := ⟨_, rfl⟩
      rw [← hx] at HN HB HS hi hc
      clear hnx hx HG
      have HI := hid hi
      have HW := hid (fun (W : World) => spec_l1In x 0 (nx + 1) W)
      by_cases hin : 0 ≤ x ∧ x ≤ nx + 1
      · have hw : inB x 0 (nx + 1) = true := by unfold inB; rw [decide_eq_true_eq]; exact hin
        rw [hw] at HW
        have HIN := hid hin
        clear hw hi
        rcases (by omega : nx < x ∨ x ≤ nx) with hcmp | hcmp
        · go_wp2_with (go_at_call 92; refine (HW.out _).mono ?_; rintro e w3 ⟨rfl, rfl⟩)
          go_round
          case rel => exact ⟨k + 1, by omega, by go_num, HS.out HIN.out.1 HIN.out.2, by rw [HN.out]; congr 1; omega⟩
          case measure => simp [intOf]; omega
        · go_wp2_with (go_at_call 92; refine (HW.out _).mono ?_; rintro e w3 ⟨rfl, rfl⟩)
          go_round
          case rel => exact ⟨k + 1, by omega, by go_num, HS.out HIN.out.1 HIN.out.2, by rw [HN.out]; congr 1; omega⟩
          case measure => simp [intOf]; omega
      · have hw : inB x 0 (nx + 1) = false := by unfold inB; rw [decide_eq_false_iff_not]; exact hin
        rw [hw] at HW
        have HP := hid (HB.out hin)
        clear hw hin hi
        go_wp2_with (go_at_call 92; refine (HW.out _).mono ?_; rintro e w3 ⟨rfl, rfl⟩)
        go_ret
        exact ⟨ret_bool HP.out.symm, rfl⟩
    · have hkl : k = l.length := by omega
      subst hkl
      have HP := hid (partB_rg (by have := HG.out; rwa [List.take_length] at this))
      clear hb
      go_wp2_with (go_at_call 92; refine (HLEN.out _).mono ?_; rintro e w3 ⟨rfl, rfl⟩)
      go_ret
      exact ⟨ret_bool (by rw [HP.out]; unfold inB; rw [Bool.eq_iff_iff]; simp only [Bool.and_eq_true, decide_eq_true_eq]; omega), rfl⟩

set_option maxHeartbeats 400000 in
theorem spec_l19Pair (v u : Value) (a b : List Int) (w : World) (h : Sl intR w v a) (k : Sl intR w u b) :
    Calls Tryz.prog 113 #[v, u] w fun e w2 => e = .returned (.bool (twoC a b)) ∧ w = w2 := by
  have HA := hid (spec_IsPartition v a w h)
  have HB := hid (spec_IsPartition u b w k)
  obtain ⟨A, cap, rfl, hm⟩ := h.form
  obtain ⟨B, cap2, rfl, hm2⟩ := k.form
  have HV := hid (show twoC a b = (partB a && (partB b && decide (a.length = b.length))) from rfl)
  obtain ⟨p, hp⟩ : ∃ p, p = partB a := ⟨_, rfl⟩
  obtain ⟨q, hq⟩ : ∃ q, q = partB b := ⟨_, rfl⟩
  rw [← hp] at HA HV
  rw [← hq] at HB HV
  clear hp hq
  cases p with
  | false =>
    go_enter Tryz.func113, Tryz.ntmps113
    go_wp2_with fail
    refine (HA.out).mono ?_
    rintro e w2 ⟨rfl, rfl⟩
    go_wp2
    go_ret
    exact ⟨ret_bool (by rw [HV.out]; rfl), rfl⟩
  | true =>
    cases q with
    | false =>
      go_enter Tryz.func113, Tryz.ntmps113
      go_wp2_with fail
      refine (HA.out).mono ?_
      rintro e w2 ⟨rfl, rfl⟩
      go_wp2_with fail
      refine (HB.out).mono ?_
      rintro e w2 ⟨rfl, rfl⟩
      go_wp2
      go_ret
      exact ⟨ret_bool (by rw [HV.out]; rfl), rfl⟩
    | true =>
      have HE := hid (show ((a.length : Int) == (b.length : Int)) = decide (a.length = b.length) from by rw [Bool.eq_iff_iff, beq_iff_eq, decide_eq_true_eq]; omega)
      go_enter Tryz.func113, Tryz.ntmps113
      go_wp2_with fail
      refine (HA.out).mono ?_
      rintro e w2 ⟨rfl, rfl⟩
      go_wp2_with fail
      refine (HB.out).mono ?_
      rintro e w2 ⟨rfl, rfl⟩
      go_wp2
      go_ret
      exact ⟨ret_bool (by rw [HV.out, ← HE.out]; rfl), rfl⟩

set_option maxHeartbeats 2000000 in
set_option maxRecDepth 20000 in
theorem spec_JoinPartitions (v u : Value) (a b : List Int) (w : World) (h : Sl intR w v a) (k : Sl intR w u b) (hab : twoB a b) :
    Calls Tryz.prog 61 #[v, u] w fun e w2 => ∃ v2 F, e = .returned v2 ∧ OwnSl intO w2 v2 (joinP a b) F ∧ NewF w F ∧ Ext w w2 := by
  have HA := hid (spec_l19Pair v u a b w h k)
  rw [twoC_iff.2 hab] at HA
  obtain ⟨hn1, hn8⟩ := (partB_iff.1 hab.1).2
  have HP := hid (joinP_yes hab)
  obtain ⟨A, cap, rfl, hm1⟩ := h.form
  obtain ⟨B, cap2, rfl, hm2⟩ := k.form
  have HH := hid h
  have HK := hid k
  have HBL := hid hab.2.2
  have HL := hid (fun (W : World) => spec_l17Links a.length W hn8)
  have HLB := hid (fun (W : World) (v : Value) (B : List (List Bool)) (q : Sl (slR boolR) W v B) (hs : SqB a.length B) (hl : ∀ x y, x < a.length → y < a.length → (entB B x y = true ↔ joinR a b x y)) => spec_l17Labels (R := joinR a b) (fun x y => joinR_symm) (fun x y h => ⟨h.1, h.2.1⟩) v B W q hs hl hn8)
  clear h k hab
  go_enter Tryz.func61, Tryz.ntmps61
  go_wp2_with fail
  refine (HA.out).mono ?_
  rintro e w1 ⟨rfl, rfl⟩
  go_wp2_with fail
  refine (HL.out _).mono ?_
  rintro e w2 ⟨v2, F2, rfl, o2, n2, x2⟩
  obtain ⟨G0, O0, c0, rfl, _⟩ := o2.formB n2.1 (sqB_sq a.length) hn1
  have HO := hid o2
  have HN2 := hid n2
  have HX := hid x2
  clear o2 n2 x2
  go_wp2_with fail
  go_loopw [6] (fun t wr => ∃ (i : Nat) (T : List (List Bool)), i ≤ a.length ∧ t = .int .i64 i ∧ PreB a.length (joinR a b) i 0 T ∧ OwnSl (slO boolO) wr (.slice (some ⟨G0, O0, none⟩) a.length c0) T F2 ∧ Ext w wr) (fun t _ => a.length - (intOf t).toNat)
  case atStart => exact ⟨0, _, Nat.zero_le _, rfl, PreB.start _ _, HO.out, HX.out⟩
  case round =>
    clear HO HX
    obtain ⟨i, T, hi, rfl, hS, o, hx⟩ := hrel
    by_cases hil : i < a.length
    · have HS := hid hS
      have HO := hid o
      have HX := hid hx
      clear hS o hx
      go_wp2_with fail
      go_loopw [7] (fun t wr => ∃ (q : Nat) (T : List (List Bool)), q ≤ a.length ∧ t = .int .i64 q ∧ PreB a.length (joinR a b) i q T ∧ OwnSl (slO boolO) wr (.slice (some ⟨G0, O0, none⟩) a.length c0) T F2 ∧ Ext w wr) (fun t _ => a.length - (intOf t).toNat)
      case atStart => exact ⟨0, T, Nat.zero_le _, rfl, HS.out, HO.out, HX.out⟩
      case round =>
        clear HS HO HX
        obtain ⟨q, T, hq, rfl, hS, o, hx⟩ := hrel
        by_cases hql : q < a.length
        · obtain ⟨wd, hwd⟩ : ∃ wd : World, wd = wr.drew := ⟨_, rfl⟩
          have hx : Ext w wd := by rw [hwd]; exact hx.drew
          have o : OwnSl (slO boolO) wd (.slice (some ⟨G0, O0, none⟩) a.length c0) T F2 := by rw [hwd]; exact o.ext (Ext.refl _).drew
          obtain ⟨b1, o1, cp1, cA, cB, fB, hb1, _, st⟩ := o.tabB HN2.out.1 hS.1 hil hql
          have hib : i < b.length := by have := HBL.out; omega
          have hqb : q < b.length := by have := HBL.out; omega
          obtain ⟨bA, oA, eA, _, a1⟩ := (HH.out.mono hx).int hil
          subst eA
          obtain ⟨bA2, oA2, eA, _, a2⟩ := (HH.out.mono hx).int hql
          injection eA with e9
          injection e9 with e8 e7 q3
          clear q3
          subst e8; subst e7
          obtain ⟨bB, oB, eB, _, b1'⟩ := (HK.out.mono hx).int hib
          subst eB
          obtain ⟨bB2, oB2, eB, _, b2⟩ := (HK.out.mono hx).int hqb
          injection eB with e9
          injection e9 with e8 e7 q3
          clear q3
          subst e8; subst e7
          have HJ := hid (show joinR a b i q ↔ (a[i] = a[q] ∨ b[i] = b[q]) from by
            unfold joinR
            rw [getD_getElem hil, getD_getElem hql, getD_getElem hib, getD_getElem hqb]
            exact ⟨fun h => h.2.2, fun h => ⟨hil, hql, h⟩⟩)
          have hil9 : (i : Int) < (b.length : Int) := by omega
          have hql9 : (q : Int) < (b.length : Int) := by omega
          obtain ⟨p1, hp1⟩ : ∃ p, p = a[i] := ⟨_, rfl⟩
          obtain ⟨p2, hp2⟩ : ∃ p, p = a[q] := ⟨_, rfl⟩
          obtain ⟨p3, hp3⟩ : ∃ p, p = b[i] := ⟨_, rfl⟩
          obtain ⟨p4, hp4⟩ : ∃ p, p = b[q] := ⟨_, rfl⟩
          rw [← hp1] at HJ a1
          rw [← hp2] at HJ a2
          rw [← hp3] at HJ b1'
          rw [← hp4] at HJ b2
          have HST := hid (fun (x : Bool) (hx : x = true ↔ (p1 = p2 ∨ p3 = p4)) => hS.step hil hql (x := x) (hx.trans HJ.out.symm))
          have HO := hid st
          have HXS := hid (fun (x : Bool) => hx.setCell (p := ⟨b1, o1 + q, none⟩) (HN2.out.2 b1 hb1) (.bool x))
          have HW := hid hwd
          clear hS o st hx hb1 hwd hp1 hp2 hp3 hp4
          by_cases h9 : p1 = p2
          · have hd : (p1 == p2) = true := by simp [h9]
            have HT := hid (show p1 = p2 ∨ p3 = p4 from .inl h9)
            clear h9
            go_wp2_with fail
            refine wp_region_tail 26 HW.out (by kernel_rfl) (by kernel_rfl) ?_
            simp only [List.take_succ_cons, List.take_zero, List.drop_succ_cons, List.drop_zero]
            repeat (first | go_big_quiet_step ((fail)) | (go_big_quiet_want; go_big_quiet_op; apply Exists.intro; refine ⟨?_, ?_⟩; (fail); go_big_quiet_on))
            refine wpQuiet_nil ?_
            go_wp2
            go_roundw
            case rel => exact ⟨q + 1, _, by omega, by go_num, HST.out true ⟨fun _ => HT.out, fun _ => rfl⟩, HO.out true, HXS.out true⟩
            case measure => simp [intOf]; omega
          · have hd : (p1 == p2) = false := by simp [h9]
            have HT := hid (show (p3 == p4) = true ↔ (p1 = p2 ∨ p3 = p4) from by
              rw [beq_iff_eq]
              exact ⟨.inr, fun h => h.elim (fun h => absurd h h9) id⟩)
            obtain ⟨z, hz⟩ : ∃ z, z = (p3 == p4) := ⟨_, rfl⟩
            have hz2 := hz.symm
            rw [← hz] at HT
            clear h9 hz
            go_wp2_with fail
            refine wp_region_tail 26 HW.out (by kernel_rfl) (by kernel_rfl) ?_
            simp only [List.take_succ_cons, List.take_zero, List.drop_succ_cons, List.drop_zero]
            repeat (first | go_big_quiet_step ((fail)) | (go_big_quiet_want; go_big_quiet_op; apply Exists.intro; refine ⟨?_, ?_⟩; (fail); go_big_quiet_on))
            refine wpQuiet_nil ?_
            go_wp2
            go_roundw
            case rel => exact ⟨q + 1, _, by omega, by go_num, HST.out z HT.out, HO.out z, HXS.out z⟩
            case measure => simp [intOf]; omega
        · have hqn : q = a.length := by omega
          subst hqn
          have HN := hid hS.next
          clear hS
          go_wp2
          go_roundw
          case rel => exact ⟨i + 1, T, by omega, by go_num, HN.out, o, hx⟩
          case measure => simp [intOf]; omega
    · have hin : i = a.length := by omega
      subst hin
      have HC := hid (HLB.out _ _ T o.sl hS.1 hS.fin)
      clear hS o
      go_wp2_with fail
      refine (HC.out).mono ?_
      rintro e w3 ⟨v3, F3, rfl, o3, n3, x3⟩
      go_wp2
      go_ret
      exact ⟨v3, F3, rfl, by rw [HP.out]; exact o3, ⟨n3.1, fun b hb => Nat.le_trans hx.size (n3.2 b hb)⟩, hx.trans x3⟩
end Go.Proofs.YtidchfncfcckiaaGreat

namespace Go.Proofs.YtidchfncfcckiaaGreat
open Go.RowKit

set_option maxHeartbeats 1000000 in
set_option maxRecDepth 20000 in
theorem impl_clusterPart (v u : Value) (m : List (List Int)) (l : List Constraint) (w : World) (h : Sl (slR intR) w v m) (k : Sl constraintR w u l) (hm : WM m) (hl : areConB m.length l = true) :
    Calls Tryz.prog 33 #[v, u] w fun e w2 => ∃ v2 F, e = .returned v2 ∧ OwnSl intO w2 v2 (partP m l) F ∧ NewF w F ∧ Ext w w2 := by
  have HB := hid (impl_best v u m l w h k hm)
  have HP := hid (impl_BestPivot v m w h hm)
  have HK := hid (fun (W : World) (y : Ext w W) (z : Value) (q : List Int) (s : Sl intR W z q) => impl_keeps z u q l W s (k.mono y))
  have HC := hid (fun (W : World) (y : Ext w W) => impl_MustClosure m.length u l W (k.mono y))
  have HI := hid (fun (W : World) (y : Ext w W) (z : Value) (q : List Int) (s : Sl intR W z q) (hp : partB q = true) (hq : q.length = m.length) => impl_ImprovePartition v u z m l q W (h.mono y) (k.mono y) s hm hp hq)
  obtain ⟨A, cap, rfl, hm1⟩ := h.form
  obtain ⟨B, cap2, rfl, hm2⟩ := k.form
  have HS := hid (start_part hm hl)
  have HE := hid (show partP m l = if m.length ≤ 6 then (bestF m l).1 else impP m l (startP m l) from rfl)
  clear h k hm hl
  by_cases h6 : m.length ≤ 6
  · have h6d : decide ((m.length : Int) ≤ 6) = true := by simp; omega
    have HR := hid (show partP m l = (bestF m l).1 from by rw [HE.out, if_pos h6])
    clear h6
    go_enter Tryz.func33, Tryz.ntmps33
    go_wp2_with fail
    refine (HB.out).mono ?_
    rintro e w2 ⟨v2, F2, rfl, o2, n2, x2⟩
    go_wp2
    go_ret
    exact ⟨v2, F2, rfl, by rw [HR.out]; exact o2, n2, x2⟩
  · have h6d : decide ((m.length : Int) ≤ 6) = false := by simp; omega
    have HR := hid (show partP m l = impP m l (startP m l) from by rw [HE.out, if_neg h6])
    have HST := hid (show startP m l = if keepsB (bpN m m.length).1 l = true then (bpN m m.length).1 else mustL m.length l from rfl)
    clear h6
    go_enter Tryz.func33, Tryz.ntmps33
    go_wp2_with fail
    refine (HP.out).mono ?_
    rintro e w2 ⟨v2, F2, rfl, o2, n2, x2⟩
    have HK2 := hid (HK.out w2 x2 v2 _ o2.sl)
    obtain ⟨kb, hkb⟩ : ∃ kb, kb = keepsB (bpN m m.length).1 l := ⟨_, rfl⟩
    rw [← hkb] at HK2 HST
    cases kb with
    | true =>
      have HST2 := hid (show startP m l = (bpN m m.length).1 from by rw [HST.out, if_pos rfl])
      clear hkb
      go_wp2_with fail
      refine (HK2.out).mono ?_
      rintro e w3 ⟨rfl, x3⟩
      have HI3 := hid (HI.out w3 (x2.trans x3) v2 (startP m l) (by rw [HST2.out]; exact (o2.ext x3).sl) HS.out.1 HS.out.2)
      go_wp2_with fail
      refine (HI3.out).mono ?_
      rintro e w4 ⟨v4, F4, c4, rfl, o4, n4, x4⟩
      go_wp2
      go_ret
      exact ⟨v4, F4, rfl, by rw [HR.out]; exact o4, n4.ext (x2.trans x3), x2.trans (x3.trans x4)⟩
    | false =>
      have HST2 := hid (show startP m l = mustL m.length l from by rw [HST.out, if_neg (by decide)])
      clear hkb
      go_wp2_with fail
      refine (HK2.out).mono ?_
      rintro e w3 ⟨rfl, x3⟩
      go_wp2_with fail
      refine (HC.out w3 (x2.trans x3)).mono ?_
      rintro e w5 ⟨v5, F5, rfl, o5, n5, x5, _⟩
      have HI3 := hid (HI.out w5 (x2.trans (x3.trans x5)) v5 (startP m l) (by rw [HST2.out]; exact o5.sl) HS.out.1 HS.out.2)
      go_wp2_with fail
      refine (HI3.out).mono ?_
      rintro e w4 ⟨v4, F4, c4, rfl, o4, n4, x4⟩
      go_wp2
      go_ret
      exact ⟨v4, F4, rfl, by rw [HR.out]; exact o4, n4.ext (x2.trans (x3.trans x5)), x2.trans (x3.trans (x5.trans x4))⟩
end Go.Proofs.YtidchfncfcckiaaGreat

namespace Go.Proofs.YtidchfncfcckiaaGreat
open Go.RowKit

theorem mustR_snoc (p : List Constraint) (c : Constraint) (i k : Nat) : mustR (p ++ [c]) i k ↔ mustR p i k ∨ (c.same = true ∧ ((c.a = (i : Int) ∧ c.b = (k : Int)) ∨ (c.a = (k : Int) ∧ c.b = (i : Int)))) := by
  constructor
  · rintro ⟨x, hx, hs, he⟩
    rcases List.mem_append.1 hx with hx | hx
    · exact .inl ⟨x, hx, hs, he⟩
    · rw [List.mem_singleton] at hx; subst hx; exact .inr ⟨hs, he⟩
  · rintro (⟨x, hx, hs, he⟩ | ⟨hs, he⟩)
    · exact ⟨x, List.mem_append_left _ hx, hs, he⟩
    · exact ⟨c, List.mem_append_right _ (List.mem_singleton_self c), hs, he⟩
def MusB (n : Nat) (l : List Constraint) (B : List (List Bool)) : Prop := SqB n B ∧ ∀ a b, a < n → b < n → (entB B a b = true ↔ mustR l a b)
theorem MusB.start (n : Nat) : MusB n [] (sqB n) := ⟨sqB_sq n, fun a b ha hb => by
  rw [sqB_ent ha hb]
  exact ⟨fun h => Bool.noConfusion h, fun ⟨c, hc, _⟩ => by cases hc⟩⟩
theorem MusB.no {n : Nat} {l : List Constraint} {B : List (List Bool)} (h : MusB n l B) {c : Constraint} (hc : c.same = false) : MusB n (l ++ [c]) B := ⟨h.1, fun a b ha hb => by
  rw [mustR_snoc, h.2 a b ha hb, hc]
  exact ⟨.inl, fun h => h.elim id fun h => Bool.noConfusion h.1⟩⟩
theorem MusB.yes {n : Nat} {l : List Constraint} {B : List (List Bool)} (h : MusB n l B) {c : Constraint} (hc : c.same = true) {a b : Nat} (ea : c.a = a) (eb : c.b = b) (ha : a < n) (hb : b < n) : MusB n (l ++ [c]) (setB (setB B a b true) b a true) := by
  have s1 := h.1.set (k := b) ha true
  refine ⟨s1.set hb true, fun x y hx hy => ?_⟩
  rw [entB_set s1 hb ha, entB_set h.1 ha hb, mustR_snoc, ea, eb]
  by_cases e1 : x = b ∧ y = a
  · rw [if_pos e1]
    exact ⟨fun _ => .inr ⟨hc, .inr ⟨by omega, by omega⟩⟩, fun _ => rfl⟩
  · rw [if_neg e1]
    by_cases e2 : x = a ∧ y = b
    · rw [if_pos e2]
      exact ⟨fun _ => .inr ⟨hc, .inl ⟨by omega, by omega⟩⟩, fun _ => rfl⟩
    · rw [if_neg e2, h.2 x y hx hy]
      exact ⟨.inl, fun h => h.elim id fun h => by omega⟩

set_option maxHeartbeats 1000000 in
set_option maxRecDepth 20000 in
theorem spec_MustClosure (n : Nat) (v : Value) (l : List Constraint) (w : World) (h : Sl constraintR w v l) (hn : 1 ≤ n ∧ n ≤ 8) :
    Calls Tryz.prog 48 #[.int .i64 n, v] w fun e w2 => ∃ v2 F, e = .returned v2 ∧ OwnSl intO w2 v2 (mustL n l) F ∧ NewF w F ∧ Ext w w2 := by
  have HC := hid (spec_AreConstraints n v l w h hn)
  obtain ⟨A, cap, rfl, hm⟩ := h.form
  cases hc : areConB n l with
  | false =>
    have HP := hid (show mustL n l = [] from by unfold mustL; rw [hc]; rfl)
    rw [hc] at HC
    clear h hc
    go_enter Tryz.func48, Tryz.ntmps48
    go_wp2_with fail
    refine (HC.out).mono ?_
    rintro e w2 ⟨rfl, x2⟩
    go_wp2
    go_ret
    exact ⟨_, [], rfl, by rw [HP.out]; exact .inl ⟨rfl, rfl, _, _, rfl, Nat.zero_le _⟩, ⟨List.nodup_nil, fun b hb => by cases hb⟩, x2.alloc _⟩
  | true =>
    have HP := hid (show mustL n l = compL n (mustR l) from by unfold mustL; rw [hc, if_pos rfl, Int.toNat_natCast])
    obtain ⟨_, _, _, h4⟩ := areCon_iff.1 hc
    have H4 := hid h4
    rw [hc] at HC
    obtain ⟨hn1, hn8⟩ := hn
    have HL := hid (fun (W : World) => spec_l17Links n W hn8)
    have HLB := hid (fun (W : World) (v : Value) (B : List (List Bool)) (q : Sl (slR boolR) W v B) (hs : SqB n B) (hl : ∀ a b, a < n → b < n → (entB B a b = true ↔ mustR l a b)) => spec_l17Labels (R := mustR l) (fun a b => mustR_symm) (fun a b ⟨c, hc, _, he⟩ => by have := H4.out c hc; omega) v B W q hs hl hn8)
    clear hc h4
    go_enter Tryz.func48, Tryz.ntmps48
    go_wp2_with fail
    refine (HC.out).mono ?_
    rintro e w1 ⟨rfl, x1⟩
    go_wp2_with fail
    refine (HL.out _).mono ?_
    rintro e w2 ⟨v2, F2, rfl, o2, n2, x2⟩
    obtain ⟨G0, O0, c0, rfl, _⟩ := o2.formB n2.1 (sqB_sq n) hn1
    have HO := hid o2
    have HN2 := hid (show NewF w F2 from ⟨n2.1, fun b hb => Nat.le_trans x1.size (n2.2 b hb)⟩)
    have HX := hid (x1.trans x2)
    clear o2 n2 x1 x2
    go_wp2_with fail
    go_loopw [6] (fun t wr => ∃ (k : Nat) (B : List (List Bool)), k ≤ l.length ∧ t = .int .i64 k ∧ MusB n (l.take k) B ∧ OwnSl (slO boolO) wr (.slice (some ⟨G0, O0, none⟩) n c0) B F2 ∧ Ext w wr) (fun t _ => l.length - (intOf t).toNat)
    case atStart => exact ⟨0, _, Nat.zero_le _, rfl, MusB.start n, HO.out, HX.out⟩
    case round =>
      clear HO HX
      obtain ⟨k, B, hk, rfl, hS, o, hx⟩ := hrel
      by_cases hlt : k < l.length
      · obtain ⟨b, off, eA, hokk, d0, d1, d2⟩ := (h.mono hx).constraint hlt
        subst eA
        have hc := H4.out l[k] (List.getElem_mem hlt)
        have hst := List.take_succ_eq_append_getElem hlt
        obtain ⟨a, ha⟩ : ∃ a : Nat, l[k].a = a := ⟨l[k].a.toNat, by omega⟩
        obtain ⟨b', hb'⟩ : ∃ b : Nat, l[k].b = b := ⟨l[k].b.toNat, by omega⟩
        rw [ha] at d0
        rw [hb'] at d1
        have han : a < n := by omega
        have hbn : b' < n := by omega
        cases hs : l[k].same with
        | false =>
          have HS := hid (show MusB n (l.take (k + 1)) B from by rw [hst]; exact hS.no hs)
          rw [hs] at d2
          clear hS hst hs ha hb' hc hokk
          go_wp2
          go_roundw
          case rel => exact ⟨k + 1, B, by omega, by go_num, HS.out, o, hx⟩
          case measure => simp [intOf]; omega
        | true =>
          have HS := hid (show MusB n (l.take (k + 1)) (setB (setB B a b' true) b' a true) from by rw [hst]; exact hS.yes hs ha hb' han hbn)
          rw [hs] at d2
          obtain ⟨wd, hwd⟩ : ∃ wd : World, wd = wr.drew := ⟨_, rfl⟩
          have xd : Ext wr wd := by rw [hwd]; exact (Ext.refl _).drew
          have o1 := o.ext xd
          obtain ⟨b1, o1', cp1, cA, cB, fB, hb1, _, st⟩ := o1.tabB HN2.out.1 hS.1 han hbn
          have d0' := xd.cell d0
          have d1' := xd.cell d1
          have os := st true
          have hx3 := (hx.trans xd).setCell (p := ⟨b1, o1' + b', none⟩) (HN2.out.2 b1 hb1) (.bool true)
          obtain ⟨w3, hw3⟩ : ∃ w3, w3 = wd.setCell ⟨b1, o1' + b', none⟩ (.bool true) := ⟨_, rfl⟩
          rw [← hw3] at os hx3
          obtain ⟨we, hwe⟩ : ∃ wd : World, wd = w3.drew := ⟨_, rfl⟩
          have hx4 : Ext w we := by rw [hwe]; exact hx3.drew
          have o4 := os.ext (show Ext w3 we by rw [hwe]; exact (Ext.refl _).drew)
          obtain ⟨b2, o2', cp2, eA, eB, fB2, hb2, _, st2⟩ := o4.tabB HN2.out.1 (hS.1.set han true) hbn han
          obtain ⟨b3, off3, eA3, _, g0, g1, _⟩ := (h.mono hx4).constraint hlt
          injection eA3 with e9
          injection e9 with e8 e7 q3
          clear q3
          subst e8; subst e7
          rw [ha] at g0
          rw [hb'] at g1
          have HOS := hid (st2 true)
          have HX5 := hid (hx4.setCell (p := ⟨b2, o2' + a, none⟩) (HN2.out.2 b2 hb2) (.bool true))
          have HWD := hid hwd
          have HWE := hid hwe
          have HW3 := hid hw3
          clear hwd hwe hw3 hS hst hs ha hb' hc hokk o o1 os o4 st st2 hb1 hb2 hx hx3 hx4 xd
          go_wp2_with fail
          refine wp_region_tail 14 HWD.out (by kernel_rfl) (by kernel_rfl) ?_
          simp only [List.take_succ_cons, List.take_zero, List.drop_succ_cons, List.drop_zero]
          repeat (first | go_big_quiet_step ((fail)) | (go_big_quiet_want; go_big_quiet_op; apply Exists.intro; refine ⟨?_, ?_⟩; (fail); go_big_quiet_on))
          refine wpQuiet_nil ?_
          go_wp2_with fail
          rw [← HW3.out]
          refine wp_region_tail 14 HWE.out (by kernel_rfl) (by kernel_rfl) ?_
          simp only [List.take_succ_cons, List.take_zero, List.drop_succ_cons, List.drop_zero]
          repeat (first | go_big_quiet_step ((fail)) | (go_big_quiet_want; go_big_quiet_op; apply Exists.intro; refine ⟨?_, ?_⟩; (fail); go_big_quiet_on))
          refine wpQuiet_nil ?_
          go_wp2
          go_roundw
          case rel => exact ⟨k + 1, _, by omega, by go_num, HS.out, HOS.out, HX5.out⟩
          case measure => simp [intOf]; omega
      · have hkl : k = l.length := by omega
        subst hkl
        have HCL := hid (HLB.out _ _ B o.sl hS.1 (fun a b ha hb => by have := hS.2 a b ha hb; rwa [List.take_length] at this))
        clear hS o
        go_wp2_with fail
        refine (HCL.out).mono ?_
        rintro e w3 ⟨v3, F3, rfl, o3, n3, x3⟩
        go_wp2
        go_ret
        exact ⟨v3, F3, rfl, by rw [HP.out]; exact o3, ⟨n3.1, fun b hb => Nat.le_trans hx.size (n3.2 b hb)⟩, hx.trans x3⟩

set_option maxHeartbeats 1000000 in
set_option maxRecDepth 20000 in
theorem spec_FindConflict (n : Nat) (v : Value) (l : List Constraint) (w : World) (h : Sl constraintR w v l) (hn : 1 ≤ n ∧ n ≤ 8) (hc : areConB n l = true) :
    Calls Tryz.prog 93 #[.int .i64 n, v] w fun e w2 => e = .returned (.int .i64 (findC n l)) ∧ Ext w w2 := by
  have HC := hid (spec_MustClosure n v l w h hn)
  obtain ⟨A, cap, rfl, hm⟩ := h.form
  have HF := hid (show findC n l = idxF (cutB (mustL n l)) 0 l from by unfold findC; rw [hc]; rfl)
  have hpl := mustL_len hc
  obtain ⟨h1, h8, h10, h4⟩ := areCon_iff.1 hc
  have H4 := hid h4
  obtain ⟨parts, hp⟩ : ∃ p, p = mustL n l := ⟨_, rfl⟩
  rw [← hp] at HF HC hpl
  have hpn : parts.length = n := by omega
  clear hc hpl h1 h8 h4 hp
  go_enter Tryz.func93, Tryz.ntmps93
  go_wp2_with fail
  refine (HC.out).mono ?_
  rintro e w2 ⟨v2, F2, rfl, o2, n2, x2⟩
  have hS := o2.sl
  obtain ⟨A2, c2, e2, _⟩ := hS.form
  subst e2
  obtain ⟨hn1, hn8⟩ := hn
  clear o2 n2
  have hp0 : 0 < parts.length := by omega
  have HPN := hid hpn
  clear hpn
  go_wp2_with fail
  go_loopw [6] (fun t wr => ∃ k : Nat, k ≤ l.length ∧ t = .int .i64 k ∧ (∀ c ∈ l.take k, cutB parts c = false) ∧ Ext w2 wr) (fun t _ => l.length - (intOf t).toNat)
  case atStart => exact ⟨0, Nat.zero_le _, rfl, fun c hc => absurd hc (by simp), Ext.refl _⟩
  case round =>
    obtain ⟨k, hk, rfl, hcu, hx⟩ := hrel
    have HCU := hid hcu
    clear hcu
    by_cases hlt : k < l.length
    · obtain ⟨b, off, rfl, hokk, d0, d1, d2⟩ := (h.mono (x2.trans hx)).constraint hlt
      have hc := H4.out l[k] (List.getElem_mem hlt)
      have HTK := hid (List.take_succ_eq_append_getElem hlt)
      have HAT := hid (fun (q : cutB parts l[k] = true) => idxF_at (cutB parts) l k hlt HCU.out q)
      have hcu : cutB parts l[k] = (!l[k].same && parts.getD l[k].a.toNat 0 == parts.getD l[k].b.toNat 0) := rfl
      obtain ⟨c, hce⟩ : ∃ c, c = l[k] := ⟨_, rfl⟩
      rw [← hce] at hc HTK HAT hcu d0 d1 d2
      obtain ⟨a, ha⟩ : ∃ a : Nat, c.a = a := ⟨c.a.toNat, by omega⟩
      obtain ⟨b', hb'⟩ : ∃ b : Nat, c.b = b := ⟨c.b.toNat, by omega⟩
      have hap : a < parts.length := by have := HPN.out; omega
      have hbp : b' < parts.length := by have := HPN.out; omega
      rw [ha] at d0 hcu
      rw [hb'] at d1 hcu
      rw [Int.toNat_natCast, Int.toNat_natCast, getD_getElem hap, getD_getElem hbp] at hcu
      obtain ⟨b2, off2, rfl, _, ca⟩ := (hS.mono hx).int hap
      obtain ⟨b3, off3, e3, _, cb⟩ := (hS.mono hx).int hbp
      injection e3 with e9
      injection e9 with e8 e7 q3
      clear q3
      subst e8; subst e7
      obtain ⟨x, hxe⟩ : ∃ x, x = parts[a] := ⟨_, rfl⟩
      obtain ⟨y, hye⟩ : ∃ x, x = parts[b'] := ⟨_, rfl⟩
      rw [← hxe] at ca hcu
      rw [← hye] at cb hcu
      obtain ⟨s, hs⟩ : ∃ s, s = c.same := ⟨_, rfl⟩
      rw [← hs] at d2 hcu
      have y0 := fun (z : ExtOf wr) => z.2.cell d0
      have y1 := fun (z : ExtOf wr) => z.2.cell d1
      have y3 := fun (z : ExtOf wr) => z.2.cell ca
      have y4 := fun (z : ExtOf wr) => z.2.cell cb
      clear hxe hye hce hokk ha hb' hc hs d0 d1 ca cb
      have HX := hid hx
      clear hx
      have HST := hid (fun (q : cutB parts c = false) => (show ∀ x ∈ l.take (k + 1), cutB parts x = false from fun x hx => by
        rw [HTK.out] at hx
        rcases List.mem_append.1 hx with hx | hx
        · exact HCU.out x hx
        · rw [List.mem_singleton] at hx; subst hx; exact q))
      cases s with
      | true =>
        have HN := hid (HST.out (by rw [hcu]; rfl))
        have y2 := fun (z : ExtOf wr) => z.2.cell d2
        clear hcu d2
        go_wp2_with fail
        refine wp_region_ext (by kernel_rfl) (by kernel_rfl) ?_
        repeat (go_big_quiet_step ((fail)))
        refine wpQuiet_nil ?_
        rintro w5 ⟨⟨_, x5⟩, rfl⟩
        go_wp2
        go_roundw
        case rel => exact ⟨k + 1, by omega, by go_num, HN.out, HX.out.trans x5⟩
        case measure => simp [intOf]; omega
      | false =>
        have y2 := fun (z : ExtOf wr) => z.2.cell d2
        clear d2
        by_cases hxy : x = y
        · have HY := hid (HAT.out (by rw [hcu, hxy]; simp))
          have hxy1 : (x == y) = true := by simp [hxy]
          clear hcu hxy
          go_wp2_with fail
          refine wp_region_ext (by kernel_rfl) (by kernel_rfl) ?_
          repeat (go_big_quiet_step ((fail)))
          refine wpQuiet_nil ?_
          rintro w5 ⟨⟨_, x5⟩, rfl⟩
          go_wp2
          go_ret
          exact ⟨ret_int (by rw [HF.out, HY.out]), x2.trans (HX.out.trans x5)⟩
        · have hxy1 : (x == y) = false := by simp [hxy]
          have HN := hid (HST.out (by rw [hcu, hxy1]; rfl))
          clear hcu hxy
          go_wp2_with fail
          refine wp_region_ext (by kernel_rfl) (by kernel_rfl) ?_
          repeat (go_big_quiet_step ((fail)))
          refine wpQuiet_nil ?_
          rintro w5 ⟨⟨_, x5⟩, rfl⟩
          go_wp2
          go_roundw
          case rel => exact ⟨k + 1, by omega, by go_num, HN.out, HX.out.trans x5⟩
          case measure => simp [intOf]; omega
    · have hkl : k = l.length := by omega
      have HN := hid (show findC n l = -1 from by rw [HF.out]; exact idxF_all _ l k hlt HCU.out)
      subst hkl
      go_wp2
      go_ret
      exact ⟨ret_int HN.out.symm, x2.trans hx⟩

set_option maxHeartbeats 400000 in
theorem spec_IsConsistent (n : Nat) (v : Value) (l : List Constraint) (w : World) (h : Sl constraintR w v l) (hn : 1 ≤ n ∧ n ≤ 8) :
    Calls Tryz.prog 41 #[.int .i64 n, v] w fun e w2 => e = .returned (.bool (consistB n l)) ∧ Ext w w2 := by
  have HC := hid (spec_AreConstraints n v l w h hn)
  have HF := hid (fun (hc : areConB n l = true) (W : World) (y : Ext w W) => spec_FindConflict n v l W (h.mono y) hn hc)
  obtain ⟨A, cap, rfl, hm⟩ := h.form
  have HV := hid (show consistB n l = (areConB n l && decide (findC n l < 0)) from rfl)
  cases hc : areConB n l with
  | false =>
    rw [hc] at HC HV
    clear hc
    go_enter Tryz.func41, Tryz.ntmps41
    go_wp2_with fail
    refine (HC.out).mono ?_
    rintro e w2 ⟨rfl, x2⟩
    go_wp2
    go_ret
    exact ⟨ret_bool (by rw [HV.out]; rfl), x2⟩
  | true =>
    have HF := hid (HF.out hc)
    rw [hc] at HC HV
    clear hc
    obtain ⟨f, hf⟩ : ∃ f, f = findC n l := ⟨_, rfl⟩
    rw [← hf] at HF HV
    clear hf
    go_enter Tryz.func41, Tryz.ntmps41
    go_wp2_with fail
    refine (HC.out).mono ?_
    rintro e w2 ⟨rfl, x2⟩
    go_wp2_with fail
    refine (HF.out w2 x2).mono ?_
    rintro e w3 ⟨rfl, x3⟩
    go_wp2
    go_ret
    exact ⟨ret_bool (by rw [HV.out, Bool.true_and]), x2.trans x3⟩
end Go.Proofs.YtidchfncfcckiaaGreat

namespace Go.Proofs.YtidchfncfcckiaaGreat
open Go.RowKit

theorem step_app1j {P : Program} {α : Type} {R : RepO α} {ops : Array Oper} {o : Oper} {a : Act} {w : World} {K : Act → World → Prop} {Q : Exit → Act → World → Prop} {Z : Prop} {t e : TypeId} {bytes : Nat} (E : ElemT P t e R.n bytes) (hsz : 0 < R.n)
    (hgd : o.guard = none) (s x : Operand) (ho : o.op = .call { callee := .builtin .append, args := #[s, x], argTypes := #[t, t] })
    {base : Nat} {v : Value} {xs : List α} {F : List Nat} (hb : Bld R w base e v xs F) (hs : a.eval s = v) {c : Array Value} {T : TypeId} {fr : Nat × Nat} (g k : Nat) (hx : a.eval x = .slice (some ⟨g, 0, none⟩) 1 k) (hg : w.heap[g]? = some (.cells c T fr))
    (h1 : ∀ u ∈ c.toList, u.oneCell' = true) {y : α} {G : List Nat} (hy : R.own w c.toList y G) (hG : (∀ b ∈ G, b ∉ F ∧ v.ownBlock ≠ some b) ∧ G.Nodup ∧ ∀ b ∈ G, base ≤ b)
    (hbytes : xs.length + 1 ≤ 1099511627776) (hby : bytes ≤ 128) (hbase : base ≤ w.heap.size) {w0 : World} (h0 : w0.heap.size ≤ base) (hx0 : Ext w0 w)
    (h : ∀ v' w', Bld R w' base e v' (xs ++ [y]) (F ++ G) → Ext w0 w' → Aft w w' v v' → K (a.put o.dst v') w') :
    if Region.wanted o (yielded ops a.tmps) = true then Oper.wp P o a w K Q else Z := by
  have hw : Region.wanted o (yielded ops a.tmps) = true := by simp [Region.wanted, hgd]
  rw [if_pos hw]
  obtain ⟨ht, i, z, hi, hz, hsize, hby2, hzs⟩ := E
  have hl := hb.lt
  obtain ⟨cs, b1, b2, b3, b4, b5⟩ := hb
  refine wp_append_lies w s x t ho base e i z R.n bytes ht hi hz hsize hby2 hzs hsz v xs.length cs hs b1 ⟨g, 0, none⟩ 1 k c.toList hx (by rw [R.len (R.own_rd hy), Nat.one_mul]) (World.news_of_block hg) h1 (by decide)
    (by unfold maxLen; omega) (Nat.le_trans (Nat.mul_le_mul hbytes hby) (by decide)) hbase w.heap.size rfl ?_
  intro g' cap w' hown hgr hat _
  have hat2 : (Value.slice (some ⟨g', 0, none⟩) (xs.length + 1) cap).ownBlock = v.ownBlock ∨ (Value.slice (some ⟨g', 0, none⟩) (xs.length + 1) cap).ownBlock = some w.heap.size := by
    rcases hat with hat | hat
    · exact .inl hat.symm
    · exact .inr (by rw [hat]; rfl)
  obtain ⟨h5, h6⟩ := bld_grown hl b2 b3 b4 b5 hy hG hown hgr hat2
  refine h _ _ h5 (h6 w0 h0 hx0) ⟨fun b hb2 hne => hgr.block b hb2 (fun e => hne e.symm), hgr.size, fun b hb => ?_⟩
  rcases hat2 with e9 | e9
  · exact .inl (e9 ▸ hb)
  · rw [e9] at hb
    injection hb with hb
    exact .inr (by omega)
theorem grow_lit (w : World) {base : Nat} (hb : base ≤ w.heap.size) (e : TypeId) : (growO base e).own (w.alloc (.cells #[] e)) (#[Value.slice (some ⟨w.heap.size, 0, none⟩) 0 0] : Array Value).toList [] [w.heap.size] := ⟨_, rfl, Bld.lit w hb e, rfl⟩

set_option maxHeartbeats 4000000 in
set_option maxRecDepth 20000 in
theorem spec_PartitionBlocks (v : Value) (l : List Int) (w : World) (h : Sl intR w v l) (hp : partB l = true) :
    Calls Tryz.prog 42 #[v] w fun e w2 => ∃ v2 F, e = .returned v2 ∧ OwnSl (slO intO) w2 v2 (blocksP l) F ∧ NewF w F ∧ Ext w w2 := by
  have HIP := hid (fun (W : World) (y : Ext w W) => spec_IsPartition v l W (h.mono y))
  rw [hp] at HIP
  obtain ⟨hr, hn1, h8⟩ := partB_iff.1 hp
  obtain ⟨A, cap, rfl, hm⟩ := h.form
  have HR := hid hr
  clear hr hp
  go_enter Tryz.func42, Tryz.ntmps42
  go_wp2
  go_loopw [3, 4] (fun t i wr => ∃ (k : Nat) (F : List Nat), k ≤ l.length ∧ i = .int .i64 k ∧ Bld (growO w.heap.size 3) wr w.heap.size 28 t (blkN l k) F ∧ Ext w wr) (fun _ i _ => l.length - (intOf i).toNat)
  case atStart => exact ⟨0, [], Nat.zero_le _, rfl, Bld.lit w (Nat.le_refl _) _, (Ext.refl _).alloc _⟩
  case round =>
    obtain ⟨k, F, hk, rfl, hB, hx⟩ := hrel
    by_cases hlt : k < l.length
    · obtain ⟨b, off, eA, _, hc⟩ := (h.mono hx).int hlt
      obtain ⟨hf1, hf2⟩ := blkN_facts HR.out k hk
      have hxb := HR.out k hlt
      have hln := blkN_len HR.out hk
      obtain ⟨x, hxe⟩ : ∃ x : Nat, l.getD k 0 = x := ⟨(l.getD k 0).toNat, by omega⟩
      have hxe2 : l[k] = (x : Int) := by rw [← getD_getElem (d := 0) hlt]; exact hxe
      have HST := hid (show blkN l (k + 1) = blkSt (blkN l k) k x from by rw [blkN, hxe])
      rw [hxe2] at hc
      rw [hxe] at hxb
      have HXE := hid hxe2
      have HIC := hid (HIP.out wr hx)
      obtain ⟨S, hS⟩ : ∃ S, S = blkN l k := ⟨_, rfl⟩
      rw [← hS] at HST hf1 hf2 hB hln
      have hrl : ∀ y, y < S.length → (S.getD y []).length ≤ k := fun y hy => by
        rw [hf2 y hy]
        unfold itemsOf
        rw [List.length_map]
        exact Nat.le_trans (List.length_filter_le _ _) (by simp)
      rw [blkSt_eq] at HST
      have HB := hid hB
      have HK9 := hid (show I64 (k : Int) from by unfold I64; omega)
      subst eA
      clear hS hf2 hxe hxe2
      by_cases he : (x : Int) = S.length
      · have heq : ((x : Int) == (S.length : Int)) = true := by simp [he]
        rw [if_pos he] at HST
        have hxS : x = S.length := by omega
        have HSZ := hid (show S.length + 1 ≤ 1099511627776 by omega)
        have HG := hid (show (S ++ [([] : List Int)]).getD x [] = [] from by rw [hxS, getD_app_at])
        have hll : (S ++ [([] : List Int)]).length = S.length + 1 := by simp
        have HLL := hid hll
        have HXS := hid hxS
        obtain ⟨A3, c3, e3, _⟩ := hB.sl.form
        subst e3
        have x1 : Ext wr (wr.alloc (.cells #[] 3)) := (Ext.refl _).alloc _
        have HB1 := hid (hB.ext x1)
        have HFR := hid (hB.fresh (G := [wr.heap.size]) ⟨by simp, fun b hb => by rw [List.mem_singleton] at hb; omega⟩ hx.size)
        have HO := hid (grow_lit wr hx.size 3)
        have HSZ2 := hid (Nat.le_trans hx.size x1.size)
        have HX1 := hid (hx.trans x1)
        clear hB hrl hf1 hxb he hxS hll hx x1
        go_wp2_with (first | (go_at_call 94; refine (HIC.out).mono ?_; rintro e w3 ⟨rfl, rfl⟩) | (at_builtin; refine wpList_app1h (R := growO w.heap.size 3) elemInts Nat.one_pos rfl _ _ rfl HB1.out rfl _ 1 rfl (by simp) (one_slice _ _ _) (y := []) HO.out HFR.out HSZ.out (by decide) HSZ2.out ?_; intro v9 w9 hB9 hE9 hA9))
        have hx9 := (hE9 w (Nat.le_refl _) HX1.out).drew
        obtain ⟨wd, hwd⟩ : ∃ wd : World, wd = w9.drew := ⟨_, rfl⟩
        have HWD := hid hwd
        obtain ⟨T, hT⟩ : ∃ T, T = S ++ [([] : List Int)] := ⟨_, rfl⟩
        rw [← hT] at HST HG HLL hB9
        have hB9 := hB9.ext (show Ext w9 wd by rw [hwd]; exact (Ext.refl _).drew)
        rw [← hwd] at hx9
        have hxl : x < T.length := by rw [HLL.out, HXS.out]; omega
        have hRk : (T.getD x []).length ≤ 8 := by rw [HG.out]; exact Nat.zero_le _
        have hTl : S.length + 1 = T.length := HLL.out.symm
        obtain ⟨A9, c9, e9, _⟩ := hB9.sl.form
        subst e9
        clear hwd hT hE9 hA9 hTl
        have HB9 := hid hB9
        have hrw := hB9.row hxl
        obtain ⟨g, cg, vi, eV, hgw, hgs, cx, fx, hrb, hvg, hrk⟩ := hrw
        obtain ⟨A7, c7, e7, _⟩ := hrb.sl.form
        subst e7
        have HGW := hid hgw
        have HWX := hid hx9
        obtain ⟨R, hR⟩ : ∃ R, R = T.getD x [] := ⟨_, rfl⟩
        rw [← hR] at hrb hRk
        try rw [← hR] at cx
        try rw [← hR] at hrk
        have HRB := hid hrb
        have HRK := hid hrk
        have HRG := hid hR
        have HRS := hid (show R.length + 1 ≤ 1099511627776 by omega)
        obtain ⟨bl, ol, eA, _, cl⟩ := (h.mono hx9).int hlt
        injection eA with e9
        injection e9 with e8 e7 q3
        clear q3
        subst e8; subst e7
        rw [HXE.out] at cl
        have HCL := hid (fun (W : World) (y : Ext w W) => (h.mono y).int hlt)
        injection eV with eV q1 q2
        clear q1
        subst eV; subst q2
        have cS : wd.cell? ⟨b, off + k, none⟩ = some (.int .i64 x) ∧ wd.cell? ⟨g, x, none⟩ = some (.slice A7 R.length c7) := ⟨cl, cx⟩
        have HFX := hid fx
        clear hR hrb hrk hgw hgs hvg hB9 hx9 cl cx hRk
        refine wp_region_J 16 (fun w' => w'.cell? ⟨b, off + k, none⟩ = some (.int .i64 x) ∧ w'.cell? ⟨g, x, none⟩ = some (.slice A7 R.length c7)) (by kernel_rfl) ?_
        rw [← HWD.out]
        refine wpAnyJ_take (i := 0) (v := ?v0z) (by simp only [List.getElem?_toArray, List.getElem?_cons_succ, List.getElem?_cons_zero, Option.some.injEq]; exact rfl) (by kernel_rfl) (by kernel_rfl) (by kernel_rfl) (by kernel_rfl) (by exact fun _ _ _ h => h) (Or.inl ⟨by rfl, fun w9 hS9 => ?hy0z⟩) (by exact cS) ?rest0z
        case hy0z => (try dsimp only at hS9); go_simp <;> with_reducible rfl
        try simp only [Act.put, List.setIfInBounds_toArray, List.set_cons_zero, List.set_cons_succ]
        refine wpAnyJ_take (i := 1) (v := ?v1z) (by simp only [List.getElem?_toArray, List.getElem?_cons_succ, List.getElem?_cons_zero, Option.some.injEq]; exact rfl) (by kernel_rfl) (by kernel_rfl) (by kernel_rfl) (by kernel_rfl) (by exact fun _ _ _ h => h) (Or.inl ⟨by rfl, fun w9 hS9 => ?hy1z⟩) (by exact cS) ?rest1z
        case hy1z => (try dsimp only at hS9); go_simp <;> with_reducible rfl
        try simp only [Act.put, List.setIfInBounds_toArray, List.set_cons_zero, List.set_cons_succ]
        refine wpAnyJ_take (i := 2) (v := ?v2z) (by simp only [List.getElem?_toArray, List.getElem?_cons_succ, List.getElem?_cons_zero, Option.some.injEq]; exact rfl) (by kernel_rfl) (by kernel_rfl) (by kernel_rfl) (by kernel_rfl) (by exact fun _ _ _ h => h) (Or.inl ⟨by rfl, fun w9 hS9 => ?hy2z⟩) (by exact cS) ?rest2z
        case hy2z => (try dsimp only at hS9); go_simp <;> with_reducible rfl
        try simp only [Act.put, List.setIfInBounds_toArray, List.set_cons_zero, List.set_cons_succ]
        refine wpAnyJ_take (i := 3) (v := ?v3z) (by simp only [List.getElem?_toArray, List.getElem?_cons_succ, List.getElem?_cons_zero, Option.some.injEq]; exact rfl) (by kernel_rfl) (by kernel_rfl) (by kernel_rfl) (by kernel_rfl) (by exact fun _ _ _ h => h) (Or.inl ⟨by rfl, fun w9 hS9 => ?hy3z⟩) (by exact cS) ?rest3z
        case hy3z => (try dsimp only at hS9); go_simp <;> with_reducible rfl
        try simp only [Act.put, List.setIfInBounds_toArray, List.set_cons_zero, List.set_cons_succ]
        refine wpAnyJ_take (i := 4) (v := ?v4z) (by simp only [List.getElem?_toArray, List.getElem?_cons_succ, List.getElem?_cons_zero, Option.some.injEq]; exact rfl) (by kernel_rfl) (by kernel_rfl) (by kernel_rfl) (by kernel_rfl) (by exact fun _ _ _ h => h) (Or.inl ⟨by rfl, fun w9 hS9 => ?hy4z⟩) (by exact cS) ?rest4z
        case hy4z => (try dsimp only at hS9); go_simp <;> with_reducible rfl
        try simp only [Act.put, List.setIfInBounds_toArray, List.set_cons_zero, List.set_cons_succ]
        refine wpAnyJ_take (i := 5) (v := ?v5z) (by simp only [List.getElem?_toArray, List.getElem?_cons_succ, List.getElem?_cons_zero, Option.some.injEq]; exact rfl) (by kernel_rfl) (by kernel_rfl) (by kernel_rfl) (by kernel_rfl) (by exact fun _ _ _ h => h) (Or.inl ⟨by rfl, fun w9 hS9 => ?hy5z⟩) (by exact cS) ?rest5z
        case hy5z => (try dsimp only at hS9); go_simp <;> with_reducible rfl
        try simp only [Act.put, List.setIfInBounds_toArray, List.set_cons_zero, List.set_cons_succ]
        refine wpAnyJ_take (i := 6) (v := ?v6z) (by simp only [List.getElem?_toArray, List.getElem?_cons_succ, List.getElem?_cons_zero, Option.some.injEq]; exact rfl) (by kernel_rfl) (by kernel_rfl) (by kernel_rfl) (by kernel_rfl) (by exact fun _ _ _ h => h) (Or.inl ⟨by rfl, fun w9 hS9 => ?hy6z⟩) (by exact cS) ?rest6z
        case hy6z => (try dsimp only at hS9); go_simp <;> with_reducible rfl
        try simp only [Act.put, List.setIfInBounds_toArray, List.set_cons_zero, List.set_cons_succ]
        refine wpAnyJ_take (i := 7) (v := ?v7z) (by simp only [List.getElem?_toArray, List.getElem?_cons_succ, List.getElem?_cons_zero, Option.some.injEq]; exact rfl) (by kernel_rfl) (by kernel_rfl) (by kernel_rfl) (by kernel_rfl) (by exact fun _ _ _ h => h) (Or.inl ⟨by rfl, fun w9 hS9 => ?hy7z⟩) (by exact cS) ?rest7z
        case hy7z => (try dsimp only at hS9); go_simp <;> with_reducible rfl
        try simp only [Act.put, List.setIfInBounds_toArray, List.set_cons_zero, List.set_cons_succ]
        refine wpAnyJ_take (i := 8) (v := ?v8z) (by simp only [List.getElem?_toArray, List.getElem?_cons_succ, List.getElem?_cons_zero, Option.some.injEq]; exact rfl) (by kernel_rfl) (by kernel_rfl) (by kernel_rfl) (by kernel_rfl) (by exact fun _ _ _ h => h) (Or.inl ⟨by rfl, fun w9 hS9 => ?hy8z⟩) (by exact cS) ?rest8z
        case hy8z => (try dsimp only at hS9); go_simp <;> with_reducible rfl
        try simp only [Act.put, List.setIfInBounds_toArray, List.set_cons_zero, List.set_cons_succ]
        refine wpAnyJ_take (i := 9) (v := ?v9z) (by simp only [List.getElem?_toArray, List.getElem?_cons_succ, List.getElem?_cons_zero, Option.some.injEq]; exact rfl) (by kernel_rfl) (by kernel_rfl) (by kernel_rfl) (by kernel_rfl) (by exact fun _ _ _ h => h) (Or.inl ⟨by rfl, fun w9 hS9 => ?hy9z⟩) (by exact cS) ?rest9z
        case hy9z => (try dsimp only at hS9); go_simp <;> with_reducible rfl
        try simp only [Act.put, List.setIfInBounds_toArray, List.set_cons_zero, List.set_cons_succ]
        refine wpAnyJ_take (i := 10) (v := ?v10z) (by simp only [List.getElem?_toArray, List.getElem?_cons_succ, List.getElem?_cons_zero, Option.some.injEq]; exact rfl) (by kernel_rfl) (by kernel_rfl) (by kernel_rfl) (by kernel_rfl) (by exact fun _ _ _ h => h) (Or.inl ⟨by rfl, fun w9 hS9 => ?hy10z⟩) (by exact cS) ?rest10z
        case hy10z => (try dsimp only at hS9); go_simp <;> with_reducible rfl
        try simp only [Act.put, List.setIfInBounds_toArray, List.set_cons_zero, List.set_cons_succ]
        refine wpAnyJ_take (i := 11) (v := ?v11z) (by simp only [List.getElem?_toArray, List.getElem?_cons_succ, List.getElem?_cons_zero, Option.some.injEq]; exact rfl) (by kernel_rfl) (by kernel_rfl) (by kernel_rfl) (by kernel_rfl) (by exact fun _ _ _ h => h) (Or.inl ⟨by rfl, fun w9 hS9 => ?hy11z⟩) (by exact cS) ?rest11z
        case hy11z => (try dsimp only at hS9); go_simp <;> with_reducible rfl
        try simp only [Act.put, List.setIfInBounds_toArray, List.set_cons_zero, List.set_cons_succ]
        refine wpAnyJ_take (i := 12) (v := ?v12z) (by simp only [List.getElem?_toArray, List.getElem?_cons_succ, List.getElem?_cons_zero, Option.some.injEq]; exact rfl) (by kernel_rfl) (by kernel_rfl) (by kernel_rfl) (by kernel_rfl) (by exact fun _ _ _ h => h) (Or.inl ⟨by rfl, fun w9 hS9 => ?hy12z⟩) (by exact cS) ?rest12z
        case hy12z => (try dsimp only at hS9); go_simp <;> with_reducible rfl
        try simp only [Act.put, List.setIfInBounds_toArray, List.set_cons_zero, List.set_cons_succ]
        refine wpAnyJ_one (i := 13) (by simp only [List.getElem?_toArray, List.getElem?_cons_succ, List.getElem?_cons_zero, Option.some.injEq]; exact rfl) (by kernel_rfl) (fun K hK => ?_)
        go_simp
        have xa1 : Ext wd (wd.alloc (.cells #[.int .i64 k] 3)) := (Ext.refl _).alloc _
        refine hK _ _ ⟨xa1.cell cS.1, xa1.cell cS.2⟩ ?_
        try simp only [Act.put, List.setIfInBounds_toArray, List.set_cons_zero, List.set_cons_succ]
        clear hK K
        refine wpAnyJ_one (i := 14) (by simp only [List.getElem?_toArray, List.getElem?_cons_succ, List.getElem?_cons_zero, Option.some.injEq]; exact rfl) (by kernel_rfl) (fun K hK => ?_)
        refine step_app1j (R := intO) elemInt (by decide) rfl _ _ rfl (HRB.out.ext xa1) rfl wd.heap.size 1 rfl (heap_alloc_new wd _) (one_int _) (y := (k : Int)) (own_int _ _ HK9.out) fresh_nil HRS.out (by decide) (Nat.le_trans HWX.out.size xa1.size) (w0 := w) (Nat.le_refl _) (HWX.out.trans xa1) ?_
        intro v8 w8 hB8 hE8 hA8
        obtain ⟨A8, c8, e8, _⟩ := hB8.sl.form
        subst e8
        obtain ⟨q1, q2, F8, q3⟩ := HRK.out w8 _ _ (fun b hb hv => (hA8.keep b (Nat.lt_of_lt_of_le hb xa1.size) hv).trans (xa1.block hb)) hB8 (fun b hb => (hA8.own b hb).imp id fun h9 => Nat.le_trans xa1.size h9)
        rw [List.length_append, List.length_singleton] at q3
        obtain ⟨bl2, ol2, eA2, _, cl2⟩ := HCL.out w8 hE8
        injection eA2 with e9
        injection e9 with e8 e7 q3
        clear q3
        subst e8; subst e7
        rw [HXE.out] at cl2
        refine hK _ _ ⟨cl2, q1⟩ ?_
        try simp only [Act.put, List.setIfInBounds_toArray, List.set_cons_zero, List.set_cons_succ]
        clear hK K
        refine wpAnyJ_one (i := 15) (by simp only [List.getElem?_toArray, List.getElem?_cons_succ, List.getElem?_cons_zero, Option.some.injEq]; exact rfl) (by kernel_rfl) (fun K hK => ?_)
        go_simp
        refine hK _ _ ⟨cl2, q1⟩ ?_
        try simp only [Act.put, List.setIfInBounds_toArray, List.set_cons_zero, List.set_cons_succ]
        clear hK K
        have HQ := hid q3
        have HX8 := hid (hE8.setCell (p := ⟨g, x, none⟩) HGW.out (.slice A8 (R.length + 1) c8))
        try rw [List.length_append, List.length_singleton]
        clear q3 hE8 hA8 hB8
        refine wpAnyJ_last (by simp only [List.getElem?_toArray, List.getElem?_cons_succ, List.getElem?_cons_zero, Option.some.injEq]; exact rfl) (by kernel_rfl) (by kernel_rfl) (fun K hK => ?_)
        go_simp
        refine hK _ _ ?_
        clear hK K
        go_wp2
        go_roundw
        case rel => exact ⟨k + 1, F8, by omega, by go_num, by rw [HST.out, ← HRG.out]; exact HQ.out, HX8.out⟩
        case measure => simp [intOf]; omega
      · have heq : ((x : Int) == (S.length : Int)) = false := by simp [he]
        rw [if_neg he] at HST
        have hxl : x < S.length := by omega
        have hRk : (S.getD x []).length ≤ 8 := by have := hrl x hxl; omega
        obtain ⟨A3, c3, e3, _⟩ := hB.sl.form
        subst e3
        have HX0 := hid hx
        clear hrl hf1 hxb he hx hB
        go_wp2_with (first | (go_at_call 94; refine (HIC.out).mono ?_; rintro e w3 ⟨rfl, rfl⟩))
        have hx9 := HX0.out.drew
        obtain ⟨wd, hwd⟩ : ∃ wd : World, wd = wr.drew := ⟨_, rfl⟩
        have HWD := hid hwd
        have hB9 := HB.out.ext (show Ext wr wd by rw [hwd]; exact (Ext.refl _).drew)
        rw [← hwd] at hx9
        clear hwd
        have HB9 := hid hB9
        have hrw := hB9.row hxl
        obtain ⟨g, cg, vi, eV, hgw, hgs, cx, fx, hrb, hvg, hrk⟩ := hrw
        obtain ⟨A7, c7, e7, _⟩ := hrb.sl.form
        subst e7
        have HGW := hid hgw
        have HWX := hid hx9
        obtain ⟨R, hR⟩ : ∃ R, R = S.getD x [] := ⟨_, rfl⟩
        rw [← hR] at hrb hRk
        try rw [← hR] at cx
        try rw [← hR] at hrk
        have HRB := hid hrb
        have HRK := hid hrk
        have HRG := hid hR
        have HRS := hid (show R.length + 1 ≤ 1099511627776 by omega)
        obtain ⟨bl, ol, eA, _, cl⟩ := (h.mono hx9).int hlt
        injection eA with e9
        injection e9 with e8 e7 q3
        clear q3
        subst e8; subst e7
        rw [HXE.out] at cl
        have HCL := hid (fun (W : World) (y : Ext w W) => (h.mono y).int hlt)
        injection eV with eV q1 q2
        clear q1
        subst eV; subst q2
        have cS : wd.cell? ⟨b, off + k, none⟩ = some (.int .i64 x) ∧ wd.cell? ⟨g, x, none⟩ = some (.slice A7 R.length c7) := ⟨cl, cx⟩
        have HFX := hid fx
        clear hR hrb hrk hgw hgs hvg hB9 hx9 cl cx hRk
        refine wp_region_J 16 (fun w' => w'.cell? ⟨b, off + k, none⟩ = some (.int .i64 x) ∧ w'.cell? ⟨g, x, none⟩ = some (.slice A7 R.length c7)) (by kernel_rfl) ?_
        rw [← HWD.out]
        refine wpAnyJ_take (i := 0) (v := ?v0y) (by simp only [List.getElem?_toArray, List.getElem?_cons_succ, List.getElem?_cons_zero, Option.some.injEq]; exact rfl) (by kernel_rfl) (by kernel_rfl) (by kernel_rfl) (by kernel_rfl) (by exact fun _ _ _ h => h) (Or.inl ⟨by rfl, fun w9 hS9 => ?hy0y⟩) (by exact cS) ?rest0y
        case hy0y => (try dsimp only at hS9); go_simp <;> with_reducible rfl
        try simp only [Act.put, List.setIfInBounds_toArray, List.set_cons_zero, List.set_cons_succ]
        refine wpAnyJ_take (i := 1) (v := ?v1y) (by simp only [List.getElem?_toArray, List.getElem?_cons_succ, List.getElem?_cons_zero, Option.some.injEq]; exact rfl) (by kernel_rfl) (by kernel_rfl) (by kernel_rfl) (by kernel_rfl) (by exact fun _ _ _ h => h) (Or.inl ⟨by rfl, fun w9 hS9 => ?hy1y⟩) (by exact cS) ?rest1y
        case hy1y => (try dsimp only at hS9); go_simp <;> with_reducible rfl
        try simp only [Act.put, List.setIfInBounds_toArray, List.set_cons_zero, List.set_cons_succ]
        refine wpAnyJ_take (i := 2) (v := ?v2y) (by simp only [List.getElem?_toArray, List.getElem?_cons_succ, List.getElem?_cons_zero, Option.some.injEq]; exact rfl) (by kernel_rfl) (by kernel_rfl) (by kernel_rfl) (by kernel_rfl) (by exact fun _ _ _ h => h) (Or.inl ⟨by rfl, fun w9 hS9 => ?hy2y⟩) (by exact cS) ?rest2y
        case hy2y => (try dsimp only at hS9); go_simp <;> with_reducible rfl
        try simp only [Act.put, List.setIfInBounds_toArray, List.set_cons_zero, List.set_cons_succ]
        refine wpAnyJ_take (i := 3) (v := ?v3y) (by simp only [List.getElem?_toArray, List.getElem?_cons_succ, List.getElem?_cons_zero, Option.some.injEq]; exact rfl) (by kernel_rfl) (by kernel_rfl) (by kernel_rfl) (by kernel_rfl) (by exact fun _ _ _ h => h) (Or.inl ⟨by rfl, fun w9 hS9 => ?hy3y⟩) (by exact cS) ?rest3y
        case hy3y => (try dsimp only at hS9); go_simp <;> with_reducible rfl
        try simp only [Act.put, List.setIfInBounds_toArray, List.set_cons_zero, List.set_cons_succ]
        refine wpAnyJ_take (i := 4) (v := ?v4y) (by simp only [List.getElem?_toArray, List.getElem?_cons_succ, List.getElem?_cons_zero, Option.some.injEq]; exact rfl) (by kernel_rfl) (by kernel_rfl) (by kernel_rfl) (by kernel_rfl) (by exact fun _ _ _ h => h) (Or.inl ⟨by rfl, fun w9 hS9 => ?hy4y⟩) (by exact cS) ?rest4y
        case hy4y => (try dsimp only at hS9); go_simp <;> with_reducible rfl
        try simp only [Act.put, List.setIfInBounds_toArray, List.set_cons_zero, List.set_cons_succ]
        refine wpAnyJ_take (i := 5) (v := ?v5y) (by simp only [List.getElem?_toArray, List.getElem?_cons_succ, List.getElem?_cons_zero, Option.some.injEq]; exact rfl) (by kernel_rfl) (by kernel_rfl) (by kernel_rfl) (by kernel_rfl) (by exact fun _ _ _ h => h) (Or.inl ⟨by rfl, fun w9 hS9 => ?hy5y⟩) (by exact cS) ?rest5y
        case hy5y => (try dsimp only at hS9); go_simp <;> with_reducible rfl
        try simp only [Act.put, List.setIfInBounds_toArray, List.set_cons_zero, List.set_cons_succ]
        refine wpAnyJ_take (i := 6) (v := ?v6y) (by simp only [List.getElem?_toArray, List.getElem?_cons_succ, List.getElem?_cons_zero, Option.some.injEq]; exact rfl) (by kernel_rfl) (by kernel_rfl) (by kernel_rfl) (by kernel_rfl) (by exact fun _ _ _ h => h) (Or.inl ⟨by rfl, fun w9 hS9 => ?hy6y⟩) (by exact cS) ?rest6y
        case hy6y => (try dsimp only at hS9); go_simp <;> with_reducible rfl
        try simp only [Act.put, List.setIfInBounds_toArray, List.set_cons_zero, List.set_cons_succ]
        refine wpAnyJ_take (i := 7) (v := ?v7y) (by simp only [List.getElem?_toArray, List.getElem?_cons_succ, List.getElem?_cons_zero, Option.some.injEq]; exact rfl) (by kernel_rfl) (by kernel_rfl) (by kernel_rfl) (by kernel_rfl) (by exact fun _ _ _ h => h) (Or.inl ⟨by rfl, fun w9 hS9 => ?hy7y⟩) (by exact cS) ?rest7y
        case hy7y => (try dsimp only at hS9); go_simp <;> with_reducible rfl
        try simp only [Act.put, List.setIfInBounds_toArray, List.set_cons_zero, List.set_cons_succ]
        refine wpAnyJ_take (i := 8) (v := ?v8y) (by simp only [List.getElem?_toArray, List.getElem?_cons_succ, List.getElem?_cons_zero, Option.some.injEq]; exact rfl) (by kernel_rfl) (by kernel_rfl) (by kernel_rfl) (by kernel_rfl) (by exact fun _ _ _ h => h) (Or.inl ⟨by rfl, fun w9 hS9 => ?hy8y⟩) (by exact cS) ?rest8y
        case hy8y => (try dsimp only at hS9); go_simp <;> with_reducible rfl
        try simp only [Act.put, List.setIfInBounds_toArray, List.set_cons_zero, List.set_cons_succ]
        refine wpAnyJ_take (i := 9) (v := ?v9y) (by simp only [List.getElem?_toArray, List.getElem?_cons_succ, List.getElem?_cons_zero, Option.some.injEq]; exact rfl) (by kernel_rfl) (by kernel_rfl) (by kernel_rfl) (by kernel_rfl) (by exact fun _ _ _ h => h) (Or.inl ⟨by rfl, fun w9 hS9 => ?hy9y⟩) (by exact cS) ?rest9y
        case hy9y => (try dsimp only at hS9); go_simp <;> with_reducible rfl
        try simp only [Act.put, List.setIfInBounds_toArray, List.set_cons_zero, List.set_cons_succ]
        refine wpAnyJ_take (i := 10) (v := ?v10y) (by simp only [List.getElem?_toArray, List.getElem?_cons_succ, List.getElem?_cons_zero, Option.some.injEq]; exact rfl) (by kernel_rfl) (by kernel_rfl) (by kernel_rfl) (by kernel_rfl) (by exact fun _ _ _ h => h) (Or.inl ⟨by rfl, fun w9 hS9 => ?hy10y⟩) (by exact cS) ?rest10y
        case hy10y => (try dsimp only at hS9); go_simp <;> with_reducible rfl
        try simp only [Act.put, List.setIfInBounds_toArray, List.set_cons_zero, List.set_cons_succ]
        refine wpAnyJ_take (i := 11) (v := ?v11y) (by simp only [List.getElem?_toArray, List.getElem?_cons_succ, List.getElem?_cons_zero, Option.some.injEq]; exact rfl) (by kernel_rfl) (by kernel_rfl) (by kernel_rfl) (by kernel_rfl) (by exact fun _ _ _ h => h) (Or.inl ⟨by rfl, fun w9 hS9 => ?hy11y⟩) (by exact cS) ?rest11y
        case hy11y => (try dsimp only at hS9); go_simp <;> with_reducible rfl
        try simp only [Act.put, List.setIfInBounds_toArray, List.set_cons_zero, List.set_cons_succ]
        refine wpAnyJ_take (i := 12) (v := ?v12y) (by simp only [List.getElem?_toArray, List.getElem?_cons_succ, List.getElem?_cons_zero, Option.some.injEq]; exact rfl) (by kernel_rfl) (by kernel_rfl) (by kernel_rfl) (by kernel_rfl) (by exact fun _ _ _ h => h) (Or.inl ⟨by rfl, fun w9 hS9 => ?hy12y⟩) (by exact cS) ?rest12y
        case hy12y => (try dsimp only at hS9); go_simp <;> with_reducible rfl
        try simp only [Act.put, List.setIfInBounds_toArray, List.set_cons_zero, List.set_cons_succ]
        refine wpAnyJ_one (i := 13) (by simp only [List.getElem?_toArray, List.getElem?_cons_succ, List.getElem?_cons_zero, Option.some.injEq]; exact rfl) (by kernel_rfl) (fun K hK => ?_)
        go_simp
        have xa1 : Ext wd (wd.alloc (.cells #[.int .i64 k] 3)) := (Ext.refl _).alloc _
        refine hK _ _ ⟨xa1.cell cS.1, xa1.cell cS.2⟩ ?_
        try simp only [Act.put, List.setIfInBounds_toArray, List.set_cons_zero, List.set_cons_succ]
        clear hK K
        refine wpAnyJ_one (i := 14) (by simp only [List.getElem?_toArray, List.getElem?_cons_succ, List.getElem?_cons_zero, Option.some.injEq]; exact rfl) (by kernel_rfl) (fun K hK => ?_)
        refine step_app1j (R := intO) elemInt (by decide) rfl _ _ rfl (HRB.out.ext xa1) rfl wd.heap.size 1 rfl (heap_alloc_new wd _) (one_int _) (y := (k : Int)) (own_int _ _ HK9.out) fresh_nil HRS.out (by decide) (Nat.le_trans HWX.out.size xa1.size) (w0 := w) (Nat.le_refl _) (HWX.out.trans xa1) ?_
        intro v8 w8 hB8 hE8 hA8
        obtain ⟨A8, c8, e8, _⟩ := hB8.sl.form
        subst e8
        obtain ⟨q1, q2, F8, q3⟩ := HRK.out w8 _ _ (fun b hb hv => (hA8.keep b (Nat.lt_of_lt_of_le hb xa1.size) hv).trans (xa1.block hb)) hB8 (fun b hb => (hA8.own b hb).imp id fun h9 => Nat.le_trans xa1.size h9)
        rw [List.length_append, List.length_singleton] at q3
        obtain ⟨bl2, ol2, eA2, _, cl2⟩ := HCL.out w8 hE8
        injection eA2 with e9
        injection e9 with e8 e7 q3
        clear q3
        subst e8; subst e7
        rw [HXE.out] at cl2
        refine hK _ _ ⟨cl2, q1⟩ ?_
        try simp only [Act.put, List.setIfInBounds_toArray, List.set_cons_zero, List.set_cons_succ]
        clear hK K
        refine wpAnyJ_one (i := 15) (by simp only [List.getElem?_toArray, List.getElem?_cons_succ, List.getElem?_cons_zero, Option.some.injEq]; exact rfl) (by kernel_rfl) (fun K hK => ?_)
        go_simp
        refine hK _ _ ⟨cl2, q1⟩ ?_
        try simp only [Act.put, List.setIfInBounds_toArray, List.set_cons_zero, List.set_cons_succ]
        clear hK K
        have HQ := hid q3
        have HX8 := hid (hE8.setCell (p := ⟨g, x, none⟩) HGW.out (.slice A8 (R.length + 1) c8))
        try rw [List.length_append, List.length_singleton]
        clear q3 hE8 hA8 hB8
        refine wpAnyJ_last (by simp only [List.getElem?_toArray, List.getElem?_cons_succ, List.getElem?_cons_zero, Option.some.injEq]; exact rfl) (by kernel_rfl) (by kernel_rfl) (fun K hK => ?_)
        go_simp
        refine hK _ _ ?_
        clear hK K
        go_wp2
        go_roundw
        case rel => exact ⟨k + 1, F8, by omega, by go_num, by rw [HST.out, ← HRG.out]; exact HQ.out, HX8.out⟩
        case measure => simp [intOf]; omega
    · have hkl : k = l.length := by omega
      subst hkl
      obtain ⟨F', q1, q2, q3⟩ := hB.growDone
      clear hB
      go_wp2
      go_ret
      exact ⟨_, F', rfl, q1, ⟨q2, q3⟩, hx⟩
end Go.Proofs.YtidchfncfcckiaaGreat

namespace Go.Proofs.YtidchfncfcckiaaGreat
open Go.RowKit

theorem keeps_no {p : List Int} {l : List Constraint} {c : Constraint} (hc : c ∈ l) (h : keepC p c = false) : keepsB p l = false := by
  cases hb : keepsB p l with
  | false => rfl
  | true =>
    unfold keepsB at hb
    rw [List.all_eq_true.1 hb c hc] at h
    cases h

set_option maxHeartbeats 8000000 in
set_option maxRecDepth 20000 in
theorem spec_KeepsConstraints (v u : Value) (p : List Int) (l : List Constraint) (w : World) (h0 : Sl intR w v p) (h : Sl constraintR w u l) :
    Calls Tryz.prog 47 #[v, u] w fun e w2 => e = .returned (.bool (partB p && keepsB p l)) ∧ Ext w w2 := by
  have HPP := hid (fun (W : World) (y : Ext w W) => spec_IsPartition v p W (h0.mono y))
  obtain ⟨B, cap2, rfl, hm2⟩ := h0.form
  have hcap := h0.cap_
  obtain ⟨A, cap, rfl, hm⟩ := h.form
  have H0 := hid h0
  clear h0
  go_enter Tryz.func47, Tryz.ntmps47
  go_wp2
  go_loopw [5] (fun t wr => ∃ k : Nat, k ≤ l.length ∧ t = .int .i64 k ∧ (∀ c ∈ l.take k, keepC p c = true) ∧ Ext w wr) (fun t _ => l.length - (intOf t).toNat)
  case atStart => exact ⟨0, Nat.zero_le _, rfl, fun c hc => absurd hc (by simp), Ext.refl _⟩
  case round =>
    obtain ⟨k, hk, rfl, hok, hx⟩ := hrel
    have HOK := hid hok
    clear hok
    by_cases hlt : k < l.length
    · obtain ⟨b, off, rfl, hokk, d0, d1, d2⟩ := (h.mono hx).constraint hlt
      have HMEM := hid (List.getElem_mem hlt)
      have HTK := hid (List.take_succ_eq_append_getElem hlt)
      obtain ⟨c, hc⟩ : ∃ c, c = l[k] := ⟨_, rfl⟩
      rw [← hc] at HMEM HTK hokk d0 d1 d2
      clear hc hokk
      obtain ⟨r, hr⟩ : ∃ r, r = keepC p c := ⟨_, rfl⟩
      obtain ⟨f1, f2, f3⟩ := keepC_range p c r hr
      have HR := hid hr.symm
      clear hr
      obtain ⟨ca, cb, sm⟩ := c
      dsimp only at f1 f2 f3 d0 d1 d2
      have y0 := fun (z : ExtOf wr) => z.2.cell d0
      have y1 := fun (z : ExtOf wr) => z.2.cell d1
      have y2 := fun (z : ExtOf wr) => z.2.cell d2
      have HA := hid (fun (W : World) => spec_l1In ca 0 ((p.length : Int) - 1) W)
      have HB := hid (fun (W : World) => spec_l1In cb 0 ((p.length : Int) - 1) W)
      obtain ⟨q1, hq1⟩ : ∃ q, q = inB ca 0 ((p.length : Int) - 1) := ⟨_, rfl⟩
      obtain ⟨q2, hq2⟩ : ∃ q, q = inB cb 0 ((p.length : Int) - 1) := ⟨_, rfl⟩
      rw [← hq1] at f1 f3 HA
      rw [← hq2] at f2 f3 HB
      have HX := hid hx
      clear hq1 hq2 d0 d1 d2
      cases q1 with
      | false =>
        have HN := hid (keeps_no HMEM.out (by rw [HR.out]; exact f1 rfl))
        clear f1 f2 f3 hx
        go_wp2_with fail
        refine wp_region_ext (by kernel_rfl) (by kernel_rfl) ?_
        repeat (go_big_quiet_step (((first | (go_at_call 92; with_reducible exact quiet_same (HA.out _)) | (go_at_call 92; with_reducible exact quiet_same (HB.out _))))))
        refine wpQuiet_nil ?_
        rintro w5 ⟨⟨_, x5⟩, rfl⟩
        go_wp2
        go_ret
        exact ⟨ret_bool (by rw [HN.out, Bool.and_false]), HX.out.trans x5⟩
      | true =>
        cases q2 with
        | false =>
          have HN := hid (keeps_no HMEM.out (by rw [HR.out]; exact f2 rfl))
          clear f1 f2 f3 hx
          go_wp2_with fail
          refine wp_region_ext (by kernel_rfl) (by kernel_rfl) ?_
          repeat (go_big_quiet_step (((first | (go_at_call 92; with_reducible exact quiet_same (HA.out _)) | (go_at_call 92; with_reducible exact quiet_same (HB.out _))))))
          refine wpQuiet_nil ?_
          rintro w5 ⟨⟨_, x5⟩, rfl⟩
          go_wp2
          go_ret
          exact ⟨ret_bool (by rw [HN.out, Bool.and_false]), HX.out.trans x5⟩
        | true =>
          obtain ⟨na, nb, hna, hnb, rfl, rfl, hre⟩ := f3 rfl rfl
          obtain ⟨b', off', eA, _, c1⟩ := (H0.out.mono hx).int hna
          obtain ⟨b2, off2, eB, _, c2⟩ := (H0.out.mono hx).int hnb
          subst eA
          injection eB with e9
          injection e9 with e8 e7 q3
          clear q3
          subst e8; subst e7
          have y3 := fun (z : ExtOf wr) => z.2.cell c1
          have y4 := fun (z : ExtOf wr) => z.2.cell c2
          obtain ⟨x, hxe⟩ : ∃ x, x = p[na] := ⟨_, rfl⟩
          obtain ⟨y, hye⟩ : ∃ x, x = p[nb] := ⟨_, rfl⟩
          rw [← hxe] at y3 hre
          rw [← hye] at y4 hre
          clear f1 f2 f3 hx c1 c2 hxe hye
          have HRE := hid hre
          clear hre
          obtain ⟨d, hd⟩ : ∃ d, (x == y) = d := ⟨_, rfl⟩
          rw [hd] at HRE
          cases r with
          | true =>
            have hcase : (d = true ∧ sm = true) ∨ (d = false ∧ sm = false) := by have := HRE.out; cases d <;> cases sm <;> first | exact absurd this (by decide) | simp
            have HY := hid HR.out
            clear HRE HR
            rcases hcase with ⟨rfl, rfl⟩ | ⟨rfl, rfl⟩
            · go_wp2_with fail
              refine wp_region_ext (by kernel_rfl) (by kernel_rfl) ?_
              repeat (go_big_quiet_step (((first | (go_at_call 92; with_reducible exact quiet_same (HA.out _)) | (go_at_call 92; with_reducible exact quiet_same (HB.out _))))))
              refine wpQuiet_nil ?_
              rintro w5 ⟨⟨_, x5⟩, rfl⟩
              go_wp2
              go_roundw
              case rel => exact ⟨k + 1, by omega, by go_num, fun x hx => by
                rw [HTK.out] at hx
                rcases List.mem_append.1 hx with hx | hx
                · exact HOK.out x hx
                · rw [List.mem_singleton] at hx; subst hx; exact HY.out, HX.out.trans x5⟩
              case measure => simp [intOf]; omega
            · go_wp2_with fail
              refine wp_region_ext (by kernel_rfl) (by kernel_rfl) ?_
              repeat (go_big_quiet_step (((first | (go_at_call 92; with_reducible exact quiet_same (HA.out _)) | (go_at_call 92; with_reducible exact quiet_same (HB.out _))))))
              refine wpQuiet_nil ?_
              rintro w5 ⟨⟨_, x5⟩, rfl⟩
              go_wp2
              go_roundw
              case rel => exact ⟨k + 1, by omega, by go_num, fun x hx => by
                rw [HTK.out] at hx
                rcases List.mem_append.1 hx with hx | hx
                · exact HOK.out x hx
                · rw [List.mem_singleton] at hx; subst hx; exact HY.out, HX.out.trans x5⟩
              case measure => simp [intOf]; omega
          | false =>
            have hcase : (d = true ∧ sm = false) ∨ (d = false ∧ sm = true) := by have := HRE.out; cases d <;> cases sm <;> first | exact absurd this (by decide) | simp
            have HN := hid (keeps_no HMEM.out HR.out)
            clear HRE
            rcases hcase with ⟨rfl, rfl⟩ | ⟨rfl, rfl⟩
            · go_wp2_with fail
              refine wp_region_ext (by kernel_rfl) (by kernel_rfl) ?_
              repeat (go_big_quiet_step (((first | (go_at_call 92; with_reducible exact quiet_same (HA.out _)) | (go_at_call 92; with_reducible exact quiet_same (HB.out _))))))
              refine wpQuiet_nil ?_
              rintro w5 ⟨⟨_, x5⟩, rfl⟩
              go_wp2
              go_ret
              exact ⟨ret_bool (by rw [HN.out, Bool.and_false]), HX.out.trans x5⟩
            · go_wp2_with fail
              refine wp_region_ext (by kernel_rfl) (by kernel_rfl) ?_
              repeat (go_big_quiet_step (((first | (go_at_call 92; with_reducible exact quiet_same (HA.out _)) | (go_at_call 92; with_reducible exact quiet_same (HB.out _))))))
              refine wpQuiet_nil ?_
              rintro w5 ⟨⟨_, x5⟩, rfl⟩
              go_wp2
              go_ret
              exact ⟨ret_bool (by rw [HN.out, Bool.and_false]), HX.out.trans x5⟩
    · have hkl : k = l.length := by omega
      subst hkl
      have HV := hid (show keepsB p l = true from List.all_eq_true.2 (fun c hc => HOK.out c (by rw [List.take_length]; exact hc)))
      have HP := hid (HPP.out _ hx)
      go_wp2_with (go_at_call 94; refine (HP.out).mono ?_; rintro e w2 ⟨rfl, rfl⟩)
      go_ret
      exact ⟨ret_bool (by rw [HV.out, Bool.and_true]), hx⟩

set_option maxHeartbeats 2000000 in
set_option maxRecDepth 20000 in
theorem spec_l19Cost (v u : Value) (m : List (List Int)) (l : List Int) (w : World) (h : Sl (slR intR) w v m) (k : Sl intR w u l) (hm : WM m) (hl : l.length ≤ m.length) :
    Calls Tryz.prog 98 #[v, u] w fun e w2 => e = .returned (.int .i64 (costP m l)) ∧ Ext w w2 := by
  obtain ⟨A, cap, rfl, hm1⟩ := h.form
  obtain ⟨B, cap2, rfl, hm2⟩ := k.form
  have h8 := hm.n8
  have HM := hid hm
  have HT := hid (fun (p q : Nat) (hp : p < m.length) (hq : q < m.length) => mat_cells h hm hp hq)
  have HK := hid k
  clear hm h k
  go_enter Tryz.func98, Tryz.ntmps98
  go_wp2
  go_loopw [5, 6] (fun c i wr => ∃ i' : Nat, i' ≤ l.length ∧ i = .int .i64 i' ∧ c = .int .i64 (costN m l i') ∧ Ext w wr) (fun _ i _ => l.length - (intOf i).toNat)
  case atStart => exact ⟨0, Nat.zero_le _, rfl, rfl, Ext.refl _⟩
  case round =>
    obtain ⟨i, hi, rfl, rfl, hx⟩ := hrel
    by_cases hlt : i < l.length
    · have hb := costN_le HM.out l (k := i) (by omega)
      have HF := hid (show costN m l (i + 1) = costN m l i + sumN (costPair m l i) i from rfl)
      obtain ⟨c0, hc0⟩ : ∃ c, c = costN m l i := ⟨_, rfl⟩
      rw [← hc0] at hb HF ⊢
      clear hc0
      obtain ⟨w0, hw0⟩ : ∃ w0, w0 = wr := ⟨_, rfl⟩
      rw [← hw0] at hx ⊢
      clear hw0
      go_wp2_with fail
      go_loopw [5, 7] (fun c j wr => ∃ k' : Nat, k' ≤ i ∧ j = .int .i64 k' ∧ c = .int .i64 (c0 + sumN (costPair m l i) k') ∧ Ext w wr) (fun _ j _ => i - (intOf j).toNat)
      case atStart => exact ⟨0, Nat.zero_le _, rfl, by simp [sumN], hx⟩
      case round =>
        clear hx
        obtain ⟨j, hj, rfl, rfl, hx⟩ := hrel
        have hb2 := costRow_le HM.out l (i := i) (k := j) (by omega) hj
        have HS := hid (show sumN (costPair m l i) (j + 1) = sumN (costPair m l i) j + costPair m l i j from rfl)
        obtain ⟨c1, hc1⟩ : ∃ c, c = sumN (costPair m l i) j := ⟨_, rfl⟩
        rw [← hc1] at hb2 HS ⊢
        have HC9 := hid hc1
        clear hc1
        by_cases hji : j < i
        · have hjl : j < l.length := by omega
          have him : i < m.length := by omega
          have hjm : j < m.length := by omega
          obtain ⟨b, off, rfl, _, k1⟩ := (HK.out.mono hx).int hlt
          obtain ⟨b2, off2, e2, _, k2⟩ := (HK.out.mono hx).int hjl
          injection e2 with e9
          injection e9 with e8 e7 q3
          clear q3
          subst e8; subst e7
          obtain ⟨bm, om, br, or, cr, eA, ht⟩ := HT.out i j him hjm
          subst eA
          have hbd := HM.out.bd i j him hjm
          have HCP := hid (show costPair m l i j = if l[i] = l[j] then max 0 (-(ent m i j)) else max 0 (ent m i j) from by unfold costPair; rw [getD_getElem hlt, getD_getElem hjl])
          obtain ⟨x, hxe⟩ : ∃ x, x = ent m i j := ⟨_, rfl⟩
          rw [← hxe] at ht hbd HCP
          obtain ⟨a, hae⟩ : ∃ x, x = l[i] := ⟨_, rfl⟩
          obtain ⟨a', hae'⟩ : ∃ x, x = l[j] := ⟨_, rfl⟩
          rw [← hae] at k1 HCP
          rw [← hae'] at k2 HCP
          have y1 := fun (z : ExtOf wr) => z.2.cell k1
          have y2 := fun (z : ExtOf wr) => z.2.cell k2
          have y3 := fun (z : ExtOf wr) => (ht z.1 (hx.trans z.2)).1
          have y4 := fun (z : ExtOf wr) => (ht z.1 (hx.trans z.2)).2
          have HT2 := hid (fun (W : World) (y : Ext wr W) => ht W (hx.trans y))
          have HX := hid hx
          clear k1 k2 hxe hae hae' hx ht
          by_cases heq : a = a'
          · have hq : (a == a') = true := by simp [heq]
            have hq2 : (a != a') = false := by simp [heq]
            have HP := hid (show costPair m l i j = max 0 (-x) from by rw [HCP.out, if_pos heq])
            clear heq
            rcases (by omega : x < 0 ∨ x = 0 ∨ 0 < x) with hx0 | rfl | hx0
            · have hg1 : decide (0 < x) = false := by rw [decide_eq_false_iff_not]; omega
              have hg2 : decide (x < 0) = true := by rw [decide_eq_true_eq]; omega
              go_wp2_with fail
              refine wp_region_ext (by kernel_rfl) (by kernel_rfl) ?_
              repeat (go_big_quiet_step ((fail)))
              refine wpQuiet_nil ?_
              rintro w5 ⟨⟨_, x5⟩, rfl⟩
              go_wp2_with fail
              have y1 := fun (z : ExtOf w5) => y1 ⟨z.1, x5.trans z.2⟩
              have y2 := fun (z : ExtOf w5) => y2 ⟨z.1, x5.trans z.2⟩
              have y3 := fun (z : ExtOf w5) => y3 ⟨z.1, x5.trans z.2⟩
              have y4 := fun (z : ExtOf w5) => y4 ⟨z.1, x5.trans z.2⟩
              refine wp_region_ext (by kernel_rfl) (by kernel_rfl) ?_
              repeat (go_big_quiet_step ((fail)))
              refine wpQuiet_nil ?_
              rintro w6 ⟨⟨_, x6⟩, rfl⟩
              obtain ⟨k3, k4⟩ := HT2.out _ (x5.trans x6)
              go_wp2
              go_roundw
              case rel => exact ⟨j + 1, by omega, by go_num, by rw [HS.out, HP.out]; congr 1; omega, HX.out.trans (x5.trans x6)⟩
              case measure => simp [intOf]; omega
            · have hg1 : decide ((0 : Int) < 0) = false := by decide
              go_wp2_with fail
              refine wp_region_ext (by kernel_rfl) (by kernel_rfl) ?_
              repeat (go_big_quiet_step ((fail)))
              refine wpQuiet_nil ?_
              rintro w5 ⟨⟨_, x5⟩, rfl⟩
              go_wp2_with fail
              have y1 := fun (z : ExtOf w5) => y1 ⟨z.1, x5.trans z.2⟩
              have y2 := fun (z : ExtOf w5) => y2 ⟨z.1, x5.trans z.2⟩
              have y3 := fun (z : ExtOf w5) => y3 ⟨z.1, x5.trans z.2⟩
              have y4 := fun (z : ExtOf w5) => y4 ⟨z.1, x5.trans z.2⟩
              refine wp_region_ext (by kernel_rfl) (by kernel_rfl) ?_
              repeat (go_big_quiet_step ((fail)))
              refine wpQuiet_nil ?_
              rintro w6 ⟨⟨_, x6⟩, rfl⟩
              go_wp2
              go_roundw
              case rel => exact ⟨j + 1, by omega, by go_num, by rw [HS.out, HP.out]; congr 1; omega, HX.out.trans (x5.trans x6)⟩
              case measure => simp [intOf]; omega
            · have hg1 : decide (0 < x) = true := by rw [decide_eq_true_eq]; omega
              have hg2 : decide (x < 0) = false := by rw [decide_eq_false_iff_not]; omega
              go_wp2_with fail
              refine wp_region_ext (by kernel_rfl) (by kernel_rfl) ?_
              repeat (go_big_quiet_step ((fail)))
              refine wpQuiet_nil ?_
              rintro w5 ⟨⟨_, x5⟩, rfl⟩
              go_wp2_with fail
              have y1 := fun (z : ExtOf w5) => y1 ⟨z.1, x5.trans z.2⟩
              have y2 := fun (z : ExtOf w5) => y2 ⟨z.1, x5.trans z.2⟩
              have y3 := fun (z : ExtOf w5) => y3 ⟨z.1, x5.trans z.2⟩
              have y4 := fun (z : ExtOf w5) => y4 ⟨z.1, x5.trans z.2⟩
              refine wp_region_ext (by kernel_rfl) (by kernel_rfl) ?_
              repeat (go_big_quiet_step ((fail)))
              refine wpQuiet_nil ?_
              rintro w6 ⟨⟨_, x6⟩, rfl⟩
              go_wp2
              go_roundw
              case rel => exact ⟨j + 1, by omega, by go_num, by rw [HS.out, HP.out]; congr 1; omega, HX.out.trans (x5.trans x6)⟩
              case measure => simp [intOf]; omega
          · have hq : (a == a') = false := by simp [heq]
            have hq2 : (a != a') = true := by simp [heq]
            have HP := hid (show costPair m l i j = max 0 x from by rw [HCP.out, if_neg heq])
            clear heq
            rcases (by omega : 0 < x ∨ x = 0 ∨ x < 0) with hx0 | rfl | hx0
            · have hg1 : decide (0 < x) = true := by rw [decide_eq_true_eq]; omega
              have hg2 : decide (x < 0) = false := by rw [decide_eq_false_iff_not]; omega
              go_wp2_with fail
              refine wp_region_ext (by kernel_rfl) (by kernel_rfl) ?_
              repeat (go_big_quiet_step ((fail)))
              refine wpQuiet_nil ?_
              rintro w5 ⟨⟨_, x5⟩, rfl⟩
              obtain ⟨k3, k4⟩ := HT2.out _ x5
              go_wp2_with fail
              have y1 := fun (z : ExtOf w5) => y1 ⟨z.1, x5.trans z.2⟩
              have y2 := fun (z : ExtOf w5) => y2 ⟨z.1, x5.trans z.2⟩
              have y3 := fun (z : ExtOf w5) => y3 ⟨z.1, x5.trans z.2⟩
              have y4 := fun (z : ExtOf w5) => y4 ⟨z.1, x5.trans z.2⟩
              refine wp_region_ext (by kernel_rfl) (by kernel_rfl) ?_
              repeat (go_big_quiet_step ((fail)))
              refine wpQuiet_nil ?_
              rintro w6 ⟨⟨_, x6⟩, rfl⟩
              go_wp2
              go_roundw
              case rel => exact ⟨j + 1, by omega, by go_num, by rw [HS.out, HP.out]; congr 1; omega, HX.out.trans (x5.trans x6)⟩
              case measure => simp [intOf]; omega
            · have hg1 : decide ((0 : Int) < 0) = false := by decide
              go_wp2_with fail
              refine wp_region_ext (by kernel_rfl) (by kernel_rfl) ?_
              repeat (go_big_quiet_step ((fail)))
              refine wpQuiet_nil ?_
              rintro w5 ⟨⟨_, x5⟩, rfl⟩
              go_wp2_with fail
              have y1 := fun (z : ExtOf w5) => y1 ⟨z.1, x5.trans z.2⟩
              have y2 := fun (z : ExtOf w5) => y2 ⟨z.1, x5.trans z.2⟩
              have y3 := fun (z : ExtOf w5) => y3 ⟨z.1, x5.trans z.2⟩
              have y4 := fun (z : ExtOf w5) => y4 ⟨z.1, x5.trans z.2⟩
              refine wp_region_ext (by kernel_rfl) (by kernel_rfl) ?_
              repeat (go_big_quiet_step ((fail)))
              refine wpQuiet_nil ?_
              rintro w6 ⟨⟨_, x6⟩, rfl⟩
              go_wp2
              go_roundw
              case rel => exact ⟨j + 1, by omega, by go_num, by rw [HS.out, HP.out]; congr 1; omega, HX.out.trans (x5.trans x6)⟩
              case measure => simp [intOf]; omega
            · have hg1 : decide (0 < x) = false := by rw [decide_eq_false_iff_not]; omega
              have hg2 : decide (x < 0) = true := by rw [decide_eq_true_eq]; omega
              go_wp2_with fail
              refine wp_region_ext (by kernel_rfl) (by kernel_rfl) ?_
              repeat (go_big_quiet_step ((fail)))
              refine wpQuiet_nil ?_
              rintro w5 ⟨⟨_, x5⟩, rfl⟩
              go_wp2_with fail
              have y1 := fun (z : ExtOf w5) => y1 ⟨z.1, x5.trans z.2⟩
              have y2 := fun (z : ExtOf w5) => y2 ⟨z.1, x5.trans z.2⟩
              have y3 := fun (z : ExtOf w5) => y3 ⟨z.1, x5.trans z.2⟩
              have y4 := fun (z : ExtOf w5) => y4 ⟨z.1, x5.trans z.2⟩
              refine wp_region_ext (by kernel_rfl) (by kernel_rfl) ?_
              repeat (go_big_quiet_step ((fail)))
              refine wpQuiet_nil ?_
              rintro w6 ⟨⟨_, x6⟩, rfl⟩
              go_wp2
              go_roundw
              case rel => exact ⟨j + 1, by omega, by go_num, by rw [HS.out, HP.out]; congr 1; omega, HX.out.trans (x5.trans x6)⟩
              case measure => simp [intOf]; omega
        · have hji2 : j = i := by omega
          subst hji2
          go_wp2
          go_roundw
          case rel => exact ⟨j + 1, by omega, by go_num, by rw [HF.out, HC9.out], hx⟩
          case measure => simp [intOf]; omega
    · have hil : i = l.length := by omega
      subst hil
      go_wp2
      go_ret
      exact ⟨rfl, hx⟩

set_option maxHeartbeats 400000 in
theorem spec_PartitionCost (v u : Value) (m : List (List Int)) (l : List Int) (w : World) (h : Sl (slR intR) w v m) (k : Sl intR w u l) (hm : WM m) (hp : partB l = true) (hl : l.length = m.length) :
    Calls Tryz.prog 51 #[v, u] w fun e w2 => e = .returned (.int .i64 (costP m l)) ∧ Ext w w2 := by
  have HA := hid (spec_IsWeightMatrix v m w h)
  rw [wmB_yes hm] at HA
  have HB := hid (fun (W : World) (y : Ext w W) => spec_IsPartition u l W (k.mono y))
  rw [hp] at HB
  have HC := hid (fun (W : World) (y : Ext w W) => spec_l19Cost v u m l W (h.mono y) (k.mono y) hm (by omega))
  obtain ⟨A, cap, rfl, hm1⟩ := h.form
  obtain ⟨B, cap2, rfl, hm2⟩ := k.form
  have hne : ((l.length : Int) != (m.length : Int)) = false := by simp [hl]
  clear h k hm hp hl
  go_enter Tryz.func51, Tryz.ntmps51
  go_wp2_with fail
  refine (HA.out).mono ?_
  rintro e w2 ⟨rfl, x2⟩
  go_wp2_with fail
  refine (HB.out _ x2).mono ?_
  rintro e w3 ⟨rfl, rfl⟩
  go_wp2_with fail
  refine (HC.out _ x2).mono ?_
  rintro e w4 ⟨rfl, x4⟩
  go_wp2
  go_ret
  exact ⟨rfl, x2.trans x4⟩
end Go.Proofs.YtidchfncfcckiaaGreat

namespace Go.Proofs.YtidchfncfcckiaaGreat
open Go.RowKit

set_option maxHeartbeats 1000000 in
set_option maxRecDepth 20000 in
theorem spec_SearchParts (v u : Value) (m : List (List Int)) (l : List Constraint) (w : World) (h : Sl (slR intR) w v m) (k : Sl constraintR w u l) :
    Calls Tryz.prog 12 #[v, u] w fun e w2 => ∃ v2 F, e = .returned v2 ∧ OwnSl intO w2 v2 (searchP m l) F ∧ NewF w F ∧ Ext w w2 := by
  have HA := hid (spec_IsWeightMatrix v m w h)
  cases hp : wmB m with
  | false =>
    rw [hp] at HA
    obtain ⟨A, cap, rfl, hm1⟩ := h.form
    obtain ⟨B, cap2, rfl, hm2⟩ := k.form
    have HR := hid (searchP_no (m := m) (l := l) (by rw [hp]; simp))
    clear h k hp
    go_enter Tryz.func12, Tryz.ntmps12
    go_wp2_with fail
    refine (HA.out).mono ?_
    rintro e w2 ⟨rfl, x2⟩
    go_wp2
    go_ret
    exact ⟨_, [], rfl, by rw [HR.out]; exact .inl ⟨rfl, rfl, _, _, rfl, Nat.zero_le _⟩, .nil _, x2.alloc _⟩
  | true =>
    have hm := wmB_iff.1 hp
    have HB := hid (fun (W : World) (y : Ext w W) => spec_AreConstraints m.length u l W (k.mono y) ⟨hm.n1, hm.n8⟩)
    have HP := hid (fun (W : World) (y : Ext w W) => spec_PositiveComponents v m W (h.mono y))
    have HQ := hid (fun (W : World) (y : Ext w W) => spec_MustClosure m.length u l W (k.mono y) ⟨hm.n1, hm.n8⟩)
    rw [hp] at HA
    obtain ⟨A, cap, rfl, hm1⟩ := h.form
    obtain ⟨B, cap2, rfl, hm2⟩ := k.form
    cases hq : areConB m.length l with
    | false =>
      have HR := hid (searchP_no (m := m) (l := l) (by rw [hq]; simp))
      rw [hq] at HB
      clear h k hp hq hm
      go_enter Tryz.func12, Tryz.ntmps12
      go_wp2_with fail
      refine (HA.out).mono ?_
      rintro e w2 ⟨rfl, x2⟩
      go_wp2_with fail
      refine (HB.out _ x2).mono ?_
      rintro e w3 ⟨rfl, x3⟩
      go_wp2
      go_ret
      exact ⟨_, [], rfl, by rw [HR.out]; exact .inl ⟨rfl, rfl, _, _, rfl, Nat.zero_le _⟩, .nil _, (x2.trans x3).alloc _⟩
    | true =>
      have HR := hid (searchP_yes hp hq)
      have HT := hid (two_parts hp hq)
      rw [hq] at HB
      clear h k hp hq hm
      go_enter Tryz.func12, Tryz.ntmps12
      go_wp2_with fail
      refine (HA.out).mono ?_
      rintro e w2 ⟨rfl, x2⟩
      go_wp2_with fail
      refine (HB.out _ x2).mono ?_
      rintro e w3 ⟨rfl, x3⟩
      have HX3 := hid (x2.trans x3)
      clear x2 x3
      go_wp2_with fail
      refine (HP.out _ HX3.out).mono ?_
      rintro e w4 ⟨v4, F4, rfl, o4, n4, x4⟩
      have HS4 := hid o4.sl
      obtain ⟨A4, c4, e4, _⟩ := o4.form
      subst e4
      have HX4 := hid (HX3.out.trans x4)
      clear o4 n4 x4
      go_wp2_with fail
      refine (HQ.out _ HX4.out).mono ?_
      rintro e w5 ⟨v5, F5, rfl, o5, n5, x5⟩
      have HJ := hid (spec_JoinPartitions _ _ _ _ w5 (HS4.out.mono x5) o5.sl HT.out)
      obtain ⟨A5, c5, e5, _⟩ := o5.form
      subst e5
      have HX5 := hid (HX4.out.trans x5)
      clear o5 n5 x5
      go_wp2_with fail
      refine (HJ.out).mono ?_
      rintro e w6 ⟨v6, F6, rfl, o6, n6, x6⟩
      go_wp2
      go_ret
      exact ⟨v6, F6, rfl, by rw [HR.out]; exact o6, n6.ext HX5.out, HX5.out.trans x6⟩
end Go.Proofs.YtidchfncfcckiaaGreat
