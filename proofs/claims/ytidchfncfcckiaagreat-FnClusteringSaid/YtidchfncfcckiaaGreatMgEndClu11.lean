/-
  SEVERAL SMALL TEXTS LAID TOGETHER: ClI, SbmS, BadS, CanS, PckS, WalS, PivS, MovS.
-/
import Derived.Test.YtidchfncfcckiaaGreatMgEndClu4
import Derived.Test.YtidchfncfcckiaaGreatMgEndClu10
import Derived.Test.YtidchfncfcckiaaGreatMgEndClu7
import Derived.Test.YtidchfncfcckiaaGreatMgEndClu0
import Derived.Test.YtidchfncfcckiaaGreatMgEndClu2

namespace Go.Proofs.YtidchfncfcckiaaGreat
open Go.RowKit


set_option maxHeartbeats 8000000 in
set_option maxRecDepth 20000 in
theorem impl_ClusterItems (v u : Value) (m : List (List Int)) (l : List Constraint) (w : World) (h : Sl (slR intR) w v m) (k : Sl constraintR w u l) :
    Calls Tryz.prog 7 #[v, u] w fun e w2 => ∃ v2 F, e = .returned (.tuple #[.agg #[v2, .int .i64 (clusterP m l).1.cost, .bool (clusterP m l).1.exact, .int .i64 (clusterP m l).1.gap], .bool (clusterP m l).2]) ∧ OwnSl intO w2 v2 (clusterP m l).1.labels F ∧ NewF w F ∧ Ext w w2 := by
  have xb : Ext w (w.alloc (.cells #[.slice none 0 0, .int .i64 0, .bool false, .int .i64 0] 30)) := (Ext.refl _).alloc _
  have HC := hid (impl_canCluster v u m l _ (h.mono xb) (k.mono xb))
  obtain ⟨A, cap, rfl, hm1⟩ := h.form
  obtain ⟨B, cap2, rfl, hm2⟩ := k.form
  have HXB := hid xb
  cases hok : wmB m && consistB m.length l with
  | false =>
    rw [hok] at HC
    have HR := hid (clusterP_no hok)
    rw [HR.out]
    clear hok h k xb
    go_enter Tryz.func7, Tryz.ntmps7
    go_wp2_with fail
    refine (HC.out).mono ?_
    rintro e w2 ⟨rfl, x2⟩
    have bR := (Blk.new w 30 #[.slice none 0 0, .int .i64 0, .bool false, .int .i64 0]).ext x2
    obtain ⟨⟨a0, a1⟩, ⟨a2, a3⟩, ⟨a4, a5⟩, ⟨a6, a7⟩, b9⟩ := bR.store4 (.slice none 0 0) (.int .i64 0) (.bool false) (.int .i64 0)
    go_wp2
    obtain ⟨⟨r0, r1, r2, r3⟩, _⟩ := b9.c4
    refine bodyPost_ret (v := .tuple #[.agg #[.slice none 0 0, .int .i64 0, .bool false, .int .i64 0], .bool false]) (by simp [results, Tryz.results7, go_sem, r0, r1, r2, r3]) rfl ?_
    exact ⟨_, [], rfl, .inl ⟨rfl, rfl, none, 0, rfl, Nat.zero_le _⟩, .nil _, ((((HXB.out.trans x2).setCell (Nat.le_refl _) _).setCell (Nat.le_refl _) _).setCell (Nat.le_refl _) _).setCell (Nat.le_refl _) _⟩
  | true =>
    rw [hok] at HC
    have HR := hid (clusterP_yes hok)
    rw [HR.out]
    rw [Bool.and_eq_true] at hok
    obtain ⟨hw, hcs⟩ := hok
    have hm := wmB_iff.1 hw
    have ha : areConB m.length l = true := by unfold consistB at hcs; rw [Bool.and_eq_true] at hcs; exact hcs.1
    have hl10 := (areCon_iff.1 ha).2.2.1
    have h1 := hm.n1
    have h8 := hm.n8
    have HM := hid hm
    have HCS := hid hcs
    have HH := hid h
    have HK := hid k
    obtain ⟨f1, f2, f3⟩ := searchP_facts hw ha
    have HSF := hid (And.intro f1 f2)
    have HSP := hid (fun (W : World) (y : Ext w W) => impl_SearchParts _ _ m l W (h.mono y) (k.mono y))
    obtain ⟨i1, hi1, hz3, hz4, hz5⟩ := info_parts infoInt
    have hmk1 := run_mk (P := Tryz.prog) 28 3 i1 _ [.int .i64 0] 8 Tryz.underlying28 hi1 hz3 rfl hz4 hz5 m.length (by omega) (by omega)
    rw [flat_rep] at hmk1
    have HZI := hid (fun (W : World) => zeros_i W m.length 3 (by unfold maxLen; omega))
    obtain ⟨Z, hZ⟩ : ∃ Z, Z = (List.replicate m.length (Value.int .i64 0)).toArray := ⟨_, rfl⟩
    rw [← hZ] at hmk1 HZI
    have HL10 := hid hl10
    have HN := hid (And.intro h1 h8)
    clear h k xb hi1 hz3 hz4 hz5 hZ hw hcs hm ha f1 f2 f3 hl10 h1 h8
    go_enter Tryz.func7, Tryz.ntmps7
    go_wp2_with fail
    refine (HC.out).mono ?_
    rintro e w2 ⟨rfl, x2⟩
    have HB4 := hid ((Blk.new w 30 #[.slice none 0 0, .int .i64 0, .bool false, .int .i64 0]).ext x2)
    have HX2 := hid (HXB.out.trans x2)
    obtain ⟨wz, hwz⟩ : ∃ W, W = w2.alloc (.cells Z 3) := ⟨_, rfl⟩
    obtain ⟨wc, hwc⟩ : ∃ W, W = wz.alloc (.cells #[.slice (some ⟨w2.heap.size, 0, none⟩) m.length m.length, .int .i64 0, .bool true, .int .i64 0] 30) := ⟨_, rfl⟩
    have xz : Ext w2 wz := by rw [hwz]; exact (Ext.refl _).alloc _
    have xc : Ext wz wc := by rw [hwc]; exact (Ext.refl _).alloc _
    have sz : wz.heap.size = w2.heap.size + 1 := by rw [hwz]; simp
    have oL : OwnSl intO wz (.slice (some ⟨w2.heap.size, 0, none⟩) m.length m.length) (List.replicate m.length 0) [w2.heap.size] := by rw [hwz]; exact HZI.out w2
    have b6 : Blk wc (w2.heap.size + 1) 30 [.slice (some ⟨w2.heap.size, 0, none⟩) m.length m.length, .int .i64 0, .bool true, .int .i64 0] := by
      have h9 := Blk.new wz 30 #[.slice (some ⟨w2.heap.size, 0, none⟩) m.length m.length, .int .i64 0, .bool true, .int .i64 0]
      rw [sz] at h9
      rw [hwc]; exact h9
    have HOL := hid (oL.ext xc)
    have HB6 := hid b6
    have HXC := hid (HX2.out.trans (xz.trans xc))
    have HB4C := hid (HB4.out.ext (xz.trans xc))
    obtain ⟨gL, hgL⟩ : ∃ g, g = w2.heap.size := ⟨_, rfl⟩
    obtain ⟨g6, hg6⟩ : ∃ g, g = w2.heap.size + 1 := ⟨_, rfl⟩
    obtain ⟨g4, hg4⟩ : ∃ g, g = w.heap.size := ⟨_, rfl⟩
    rw [← hg6] at HB6
    rw [← hgL] at HOL HB6
    rw [← hg4] at HB4C
    have HGG := hid (show g4 < gL ∧ gL < g6 ∧ w.heap.size ≤ g4 ∧ g6 < wc.heap.size from by
      have := block_lt HB4.out
      have := block_lt b6
      omega)
    have HGE := hid (And.intro hgL (And.intro hg6 hg4))
    have HWC := hid (show wc = (w2.alloc (.cells Z 3)).alloc (.cells #[.slice (some ⟨w2.heap.size, 0, none⟩) m.length m.length, .int .i64 0, .bool true, .int .i64 0] 30) from by rw [hwc, hwz])
    clear hwz hwc xz xc sz oL b6 hgL hg6 hg4 x2
    go_wp2_with fail
    rw [← HWC.out]
    refine (HSP.out wc HXC.out).mono ?_
    rintro e w3 ⟨v3, F3, rfl, o3, n3, x3⟩
    have HBK := hid (impl_blocks v3 _ w3 o3.sl (partB_iff.1 HSF.out.1).1 (by rw [HSF.out.2]; exact HN.out.2))
    clear hmk1
    go_wp2_with fail
    refine (HBK.out).mono ?_
    rintro e wB ⟨vB, FB, rfl, oB, nB, xB⟩
    have HP := hid (fun (j : Nat) (hj : j < (blocksP (searchP m l)).length) => part_of HM.out HCS.out hj)
    have HFIN := hid (And.intro (show labP m l = labN m l (blocksP (searchP m l)) (blocksP (searchP m l)).length from rfl) (show clExact m l = exactN (blocksP (searchP m l)) (blocksP (searchP m l)).length from rfl))
    obtain ⟨bs, hbs⟩ : ∃ bs, bs = blocksP (searchP m l) := ⟨_, rfl⟩
    rw [← hbs] at HP oB HFIN
    have HBSL := hid (show bs.length ≤ 8 from by
      have := blkN_len (partB_iff.1 HSF.out.1).1 (k := (searchP m l).length) (Nat.le_refl _)
      rw [hbs]; unfold blocksP; have := HSF.out.2; have := HN.out.2; omega)
    obtain ⟨AB, cB, eB, _⟩ := oB.form
    subst eB
    have HXBW := hid (HXC.out.trans (x3.trans xB))
    have HOB := hid oB
    have HNB := hid (show FB.Nodup ∧ ∀ b ∈ FB, wc.heap.size ≤ b from ⟨nB.1, fun b hb => Nat.le_trans x3.size (nB.2 b hb)⟩)
    have HOLB := hid (HOL.out.ext (x3.trans xB))
    have HB6B := hid (HB6.out.ext (x3.trans xB))
    have HB4B := hid (HB4C.out.ext (x3.trans xB))
    have HSZB := hid (show wc.heap.size ≤ wB.heap.size from (x3.trans xB).size)
    clear o3 n3 x3 oB nB xB hbs
    go_wp2_with fail
    rw [← HGE.out.2.1, ← HGE.out.1, ← HGE.out.2.2]
    go_loopw [25] (fun i wr => ∃ j : Nat, j ≤ bs.length ∧ i = .int .i64 j ∧ OwnSl intO wr (.slice (some ⟨gL, 0, none⟩) m.length m.length) (labN m l bs j) [gL] ∧ Blk wr g6 30 [.slice (some ⟨gL, 0, none⟩) m.length m.length, .int .i64 0, .bool (exactN bs j), .int .i64 0] ∧ KeepB wB wr [gL, g6] ∧ Ext w wr) (fun i _ => bs.length - (intOf i).toNat)
    case atStart => exact ⟨0, Nat.zero_le _, rfl, HOLB.out, HB6B.out, KeepB.refl _ _, HXBW.out⟩
    case round =>
      clear HOLB HB6B
      obtain ⟨j, hj, rfl, hO, hB6, hK, hx⟩ := hrel
      have hbs8 := HBSL.out
      by_cases hlt : j < bs.length
      · obtain ⟨gT, oT, cT, cc, Fr, eV, hgT, hsub, hnin, hN1, ⟨vr, ecc, orow⟩, hcl, hcell, hfr, q1, q2⟩ := HOB.out.elem HNB.out.1 hlt
        clear q1 q2 hfr hcl hnin
        subst ecc
        injection eV with e9 q1 q2
        clear q1 q2
        subst e9
        have hc0 : wB.cell? ⟨gT, oT + j, none⟩ = some vr := by
          have h9 : (slO intO).n = 1 := rfl
          simpa [h9] using hcell 0 (by rw [h9]; exact Nat.one_pos)
        rw [← getD_getElem (d := []) hlt] at orow
        obtain ⟨p1, p2, p3⟩ := HP.out j hlt
        have HLN := hid (show labN m l bs (j + 1) = labSt (bs.getD j []) (partP (subM m (bs.getD j [])) (restrC l (bs.getD j []))) j (labN m l bs j) (bs.getD j []).length from rfl)
        have HEX := hid (show exactN bs (j + 1) = (exactN bs j && decide ((bs.getD j []).length ≤ 6)) from rfl)
        obtain ⟨it, hit⟩ : ∃ it, it = bs.getD j [] := ⟨_, rfl⟩
        rw [← hit] at orow p1 p2 p3 HLN HEX
        obtain ⟨L, hL⟩ : ∃ L, L = labN m l bs j := ⟨_, rfl⟩
        have hLl : L.length = m.length := by rw [hL]; exact labN_len m l bs j
        rw [← hL] at HLN hO
        obtain ⟨A7, c7, e7, _⟩ := orow.form
        subst e7
        have hitl := p1.len
        have hgg := HGG.out
        have hszb := HSZB.out
        have hFr : ∀ b ∈ Fr, b < wB.heap.size ∧ b ∉ [gL, g6] ∧ b ≠ gL := fun b hb => by
          have h2 := HNB.out.2 b (hsub b hb)
          have h3 := orow.lt b hb
          refine ⟨h3, ?_, by omega⟩
          simp only [List.mem_cons, List.not_mem_nil, or_false, not_or]
          omega
        have hgT2 : gT ∉ [gL, g6] := by
          have h2 := HNB.out.2 gT hgT
          simp only [List.mem_cons, List.not_mem_nil, or_false, not_or]
          omega
        have cT0 := hK.cell hgT2 hc0
        have oRW := orow.keep (w2 := wr) fun b hb => hK.2 b (hFr b hb).1 (hFr b hb).2.1
        have HFR := hid hFr
        have HORW := hid oRW
        have HSM := hid (impl_subMatrix _ _ m it wr (HH.out.mono hx) oRW.sl HM.out p1)
        have HI := hid p1
        have HP2 := hid p2
        have HLL := hid hLl
        have HO := hid hO
        have HB6W := hid hB6
        have HKW := hid hK
        have HXW := hid hx
        have HIL := hid (show it.length ≤ 8 from by have := HN.out.2; omega)
        have hcs3 : consistB (subM m it).length (restrC l it) = true := by rw [subM_len]; exact p3
        have HCS3 := hid hcs3
        obtain ⟨g1, g2, _, _⟩ := partP_facts p2 hcs3
        rw [subM_len] at g2
        have HG1 := hid g1
        have HG2 := hid g2
        clear hc0 hcell hsub hgT hgT2 hFr orow oRW p1 p2 p3 hcs3 g1 g2 hLl hO hB6 hK hx hitl hgg hszb hL hit
        go_wp2_with fail
        refine (HSM.out).mono ?_
        rintro e w5 ⟨v5, F5, rfl, o5, n5, x5⟩
        have HRC := hid (impl_RestrictConstraints _ _ l it w5 (HK.out.mono (HXW.out.trans x5)) (HORW.out.ext x5).sl (by have := HL10.out; omega) (by have := HIL.out; omega))
        have HO5 := hid o5
        have HX5 := hid x5
        clear o5 n5 x5
        go_wp2_with fail
        refine (HRC.out).mono ?_
        rintro e w6 ⟨v6, F6, rfl, o6, n6, x6⟩
        have HPC := hid (impl_clusterPart v5 v6 _ _ w6 (HO5.out.ext x6).sl o6.sl HP2.out (by have := HCS3.out; unfold consistB at this; rw [Bool.and_eq_true] at this; exact this.1))
        have HX6 := hid (HX5.out.trans x6)
        clear o6 n6 x6
        go_wp2_with fail
        refine (HPC.out).mono ?_
        rintro e wq ⟨vP, FP, rfl, oP, nP, xP⟩
        obtain ⟨PT, hPT⟩ : ∃ PT, PT = partP (subM m it) (restrC l it) := ⟨_, rfl⟩
        rw [← hPT] at oP HG1 HG2 HLN
        have hPL := HG2.out
        have HXP := hid (HX6.out.trans xP)
        have HFP := hid (show ∀ b ∈ FP, b ≠ gL from fun b hb e => by
          have h2 := nP.2 b hb
          have h3 := HX6.out.size
          have h4 := HKW.out.1
          have h5 := HSZB.out
          have h6 := HGG.out
          omega)
        obtain ⟨AP, cP, eP, _⟩ := oP.form
        subst eP
        have HOP := hid oP
        have HXQ := hid (HXW.out.trans HXP.out)
        have HOQ := hid (HO.out.ext HXP.out)
        have HBQ := hid (HB6W.out.ext HXP.out)
        have HORQ := hid (HORW.out.ext HXP.out)
        have HKQ := hid (HKW.out.ext HXP.out)
        clear oP nP xP hPT hPL
        go_wp2_with fail
        go_loopw [38] (fun t wr => ∃ i : Nat, i ≤ PT.length ∧ t = .int .i64 i ∧ OwnSl intO wr (.slice (some ⟨gL, 0, none⟩) m.length m.length) (labSt it PT j L i) [gL] ∧ KeepB wq wr [gL] ∧ Ext w wr) (fun t _ => PT.length - (intOf t).toNat)
        case atStart => exact ⟨0, Nat.zero_le _, rfl, HOQ.out, KeepB.refl _ _, HXQ.out⟩
        case round =>
          clear HOQ cT0
          obtain ⟨i, hi, rfl, hO, hK, hx⟩ := hrel
          have hptl : PT.length ≤ 8 := by have := HG2.out; have := HIL.out; omega
          by_cases hip : i < PT.length
          · have hii : i < it.length := by have := HG2.out; omega
            have oPW := HOP.out.keep (w2 := wr) fun b hb => hK.2 b (HOP.out.lt b hb) (by rw [List.mem_singleton]; exact HFP.out b hb)
            obtain ⟨bp, op, eP, hIp, cp⟩ := oPW.sl.int hip
            subst eP
            have hpb := RG.bd8 HG1.out hip
            obtain ⟨wd, hwd⟩ : ∃ W, W = wr.drew := ⟨_, rfl⟩
            have xd : Ext wr wd := by rw [hwd]; exact (Ext.refl _).drew
            have HW := hid hwd
            have hKd := hK.ext xd
            have oRd := HORQ.out.keep (w2 := wd) fun b hb => hKd.2 b (HORQ.out.lt b hb) (by rw [List.mem_singleton]; exact (HFR.out b hb).2.2)
            obtain ⟨bi, oi, eI, _, ci⟩ := oRd.sl.int hii
            subst eI
            have b6d : Blk wd g6 30 _ := HBQ.out.keep (hKd.2 g6 (block_lt HBQ.out) (by rw [List.mem_singleton]; have := HGG.out; omega))
            have c6 : wd.cell? ⟨g6, 0, none⟩ = some (.slice (some ⟨gL, 0, none⟩) m.length m.length) := b6d.cells.1 0
            have hbx := HI.out.bd i hii
            obtain ⟨x, hxe⟩ : ∃ x : Nat, it.getD i 0 = x := ⟨(it.getD i 0).toNat, by omega⟩
            have hxe2 : it[i] = (x : Int) := by rw [← getD_getElem (d := 0) hii]; exact hxe
            rw [hxe2] at ci
            have hxm : x < m.length := by omega
            have HST := hid (show labSt it PT j L (i + 1) = (labSt it PT j L i).set x ((j : Int) * 8 + PT.getD i 0) from by rw [labSt, hxe, Int.toNat_natCast])
            rw [getD_getElem hip] at HST
            have hLS : (labSt it PT j L i).length = m.length := by rw [labSt_len]; exact HLL.out
            obtain ⟨gx, ox, cx, eX, _, cs, fs, st⟩ := (hO.ext xd).int_store (by simp) (i := x) (by omega)
            injection eX with e9 q1 q2
            clear q1 q2
            injection e9 with e9
            injection e9 with e8 e7 q3
            clear q3
            subst e8; subst e7
            rw [Nat.zero_add] at cs fs
            have st2 := st ((j : Int) * 8 + PT[i]) (by unfold I64; omega)
            rw [Nat.zero_add] at st2
            have HS2 := hid st2
            have HX2 := hid ((hx.trans xd).setCell (p := ⟨gL, x, none⟩) (by have := HGG.out; show w.heap.size ≤ gL; omega) (.int .i64 ((j : Int) * 8 + PT[i])))
            have HK2 := hid (hKd.set (i := x) (g := gL) (by simp) (.int .i64 ((j : Int) * 8 + PT[i])))
            have hu : ∃ u, wd.cell? ⟨gL, x, none⟩ = some u := ⟨_, cs⟩
            clear cs
            obtain ⟨u, cs⟩ := hu
            obtain ⟨y, hy⟩ : ∃ y, y = PT[i] := ⟨_, rfl⟩
            rw [← hy] at cp hpb HST HS2 HX2 HK2
            clear hO hK hx oPW oRd b6d hKd xd hwd hxe hxe2 hbx hLS st st2 hy hIp
            go_wp2_with fail
            refine wp_region_tail 11 HW.out (by kernel_rfl) (by kernel_rfl) ?_
            simp only [List.take_succ_cons, List.take_zero, List.drop_succ_cons, List.drop_zero]
            repeat (first | go_big_quiet_step ((fail)) | (go_big_quiet_want; go_big_quiet_op; apply Exists.intro; refine ⟨?_, ?_⟩; (fail); go_big_quiet_on))
            refine wpQuiet_nil ?_
            go_wp2
            go_roundw
            case rel => exact ⟨i + 1, by omega, by go_num, by rw [HST.out]; exact HS2.out, HK2.out, HX2.out⟩
            case measure => simp [intOf]; omega
          · have hie : i = PT.length := by omega
            subst hie
            have b6r : Blk wr g6 30 _ := HBQ.out.keep (hK.2 g6 (block_lt HBQ.out) (by rw [List.mem_singleton]; have := HGG.out; omega))
            have HLF := hid (show labN m l bs (j + 1) = labSt it PT j L PT.length from by rw [HLN.out, HG2.out])
            have HO9 := hid hO
            obtain ⟨c0, c1, c2, c3⟩ := b6r.c4.1
            have f6 := b6r.c4.2 2
            have hgg := HGG.out
            have HX9 := hid (fun (e : Bool) => hx.setCell (p := ⟨g6, 2, none⟩) (by show w.heap.size ≤ g6; omega) (.bool e))
            have HK9 := hid (fun (e : Bool) => ((HKQ.out.via hK fun b _ hm => by rw [List.mem_singleton] at hm; subst hm; simp).set (i := 2) (g := g6) (by simp) (.bool e)))
            have HB9 := hid (fun (e : Bool) => b6r.set2 (.bool e))
            have HOS := hid (fun (e : Bool) => HO9.out.setCell (p := ⟨g6, 2, none⟩) (by simp; omega) (.bool e))
            obtain ⟨ex, hex⟩ : ∃ ex, ex = exactN bs j := ⟨_, rfl⟩
            rw [← hex] at HEX c2
            clear hO hK hx hgg b6r hex
            cases ex with
            | false =>
              have HE2 := hid (show exactN bs (j + 1) = false from by rw [HEX.out]; rfl)
              go_wp2
              go_roundw
              case rel => exact ⟨j + 1, by omega, by go_num, by rw [HLF.out]; exact HOS.out false, by rw [HE2.out]; exact HB9.out false, HK9.out false, HX9.out false⟩
              case measure => simp [intOf]; omega
            | true =>
              by_cases h6 : it.length ≤ 6
              · have HE2 := hid (show exactN bs (j + 1) = true from by rw [HEX.out, decide_eq_true h6]; rfl)
                have h6d : decide ((it.length : Int) ≤ 6) = true := by simp; omega
                clear h6
                go_wp2
                go_roundw
                case rel => exact ⟨j + 1, by omega, by go_num, by rw [HLF.out]; exact HOS.out true, by rw [HE2.out]; exact HB9.out true, HK9.out true, HX9.out true⟩
                case measure => simp [intOf]; omega
              · have HE2 := hid (show exactN bs (j + 1) = false from by rw [HEX.out, decide_eq_false h6]; rfl)
                have h6d : decide ((it.length : Int) ≤ 6) = false := by simp; omega
                clear h6
                go_wp2
                go_roundw
                case rel => exact ⟨j + 1, by omega, by go_num, by rw [HLF.out]; exact HOS.out false, by rw [HE2.out]; exact HB9.out false, HK9.out false, HX9.out false⟩
                case measure => simp [intOf]; omega
      · have hje : j = bs.length := by omega
        subst hje
        have hgg := HGG.out
        have hszb := HSZB.out
        rw [← HFIN.out.1] at hO
        rw [← HFIN.out.2] at hB6
        have HCL := hid (impl_CanonicalLabels _ _ wr hO.sl (by unfold labP; rw [labN_len]; have := HN.out.2; omega))
        have b4r : Blk wr g4 30 _ := HB4B.out.keep (hK.2 g4 (block_lt HB4B.out) (by simp only [List.mem_cons, List.not_mem_nil, or_false, not_or]; omega))
        have hg6wr := block_lt hB6
        have hg4wr := block_lt b4r
        obtain ⟨c0, c1, c2, c3⟩ := hB6.c4.1
        have HB6 := hid hB6
        have HB4R := hid b4r
        have HXR := hid hx
        have HLT := hid (And.intro hg6wr hg4wr)
        clear hO hB6 hK hx hgg hszb b4r hg6wr hg4wr
        go_wp2_with fail
        refine (HCL.out).mono ?_
        rintro e w8 ⟨v8, F8, rfl, o8, n8, x8⟩
        obtain ⟨LB, hLB⟩ : ∃ LB, LB = clLab m l := ⟨_, rfl⟩
        have hLBe : canonL (labP m l) = LB := by rw [hLB]; rfl
        rw [hLBe] at o8
        obtain ⟨lp1, lp2⟩ := clLab_part l HM.out
        rw [← hLB] at lp1 lp2
        obtain ⟨A8, c8, e8, _⟩ := o8.form
        subst e8
        have HLP := hid (And.intro lp1 lp2)
        have HLB := hid hLB
        have hF8 : ∀ b ∈ F8, b ≠ g6 ∧ b ≠ g4 := fun b hb => by have := n8.2 b hb; have := HLT.out; omega
        have b68 := HB6.out.ext x8
        obtain ⟨s0, _, _, _⟩ := b68.c4.1
        have s0f := b68.c4.2 0
        have HB68 := hid (b68.set0 (.slice A8 LB.length c8))
        have HB48 := hid ((HB4R.out.ext x8).other (g2 := g6) (i := 0) (u := .slice A8 LB.length c8) (by have := HGG.out; omega))
        have HO8 := hid (o8.setCell (p := ⟨g6, 0, none⟩) (fun hm => (hF8 _ hm).1 rfl) (.slice A8 LB.length c8))
        have HX8 := hid ((HXR.out.trans x8).setCell (p := ⟨g6, 0, none⟩) (by have := HGG.out; show w.heap.size ≤ g6; omega) (.slice A8 LB.length c8))
        have HF8 := hid hF8
        have HN8 := hid (n8.ext HXR.out)
        obtain ⟨W8, hW8⟩ : ∃ W, W = w8.setCell ⟨g6, 0, none⟩ (.slice A8 LB.length c8) := ⟨_, rfl⟩
        rw [← hW8] at HB68 HB48 HO8 HX8
        have HPC := hid (impl_partitionCost _ _ m LB W8 (HH.out.mono HX8.out) HO8.out.sl HM.out (by rw [HLP.out.2]; exact Nat.le_refl _))
        have hcb := costP_le HM.out (p := LB) (by rw [HLP.out.2]; exact Nat.le_refl _)
        obtain ⟨C, hC⟩ : ∃ C, C = costP m LB := ⟨_, rfl⟩
        have HC9 := hid hC
        rw [← hC] at HPC hcb
        obtain ⟨k0, k1, k2, k3⟩ := HB68.out.c4.1
        rw [hW8] at k0 HPC
        have HW8 := hid hW8
        clear o8 n8 x8 hLB hLBe lp1 lp2 hF8 b68 hW8 hC k1 k2 k3
        go_wp2_with fail
        refine (HPC.out).mono ?_
        rintro e w9 ⟨rfl, x9⟩
        rw [← HW8.out] at x9
        have b69 := HB68.out.ext x9
        obtain ⟨t0, t1, t2, t3⟩ := b69.c4.1
        have t1f := b69.c4.2 1
        have HB69 := hid (b69.set1 (.int .i64 C))
        have HB49 := hid ((HB48.out.ext x9).other (g2 := g6) (i := 1) (u := .int .i64 C) (by have := HGG.out; omega))
        have HO9 := hid ((HO8.out.ext x9).setCell (p := ⟨g6, 1, none⟩) (fun hm => (HF8.out _ hm).1 rfl) (.int .i64 C))
        have HX9 := hid ((HX8.out.trans x9).setCell (p := ⟨g6, 1, none⟩) (by have := HGG.out; show w.heap.size ≤ g6; omega) (.int .i64 C))
        obtain ⟨W9, hW9⟩ : ∃ W, W = w9.setCell ⟨g6, 1, none⟩ (.int .i64 C) := ⟨_, rfl⟩
        rw [← hW9] at HB69 HB49 HO9 HX9
        have HGP := hid (show clGap m l = if clExact m l = true then 0 else gapP m (clLab m l) from rfl)
        obtain ⟨ex, hex⟩ : ∃ ex, ex = clExact m l := ⟨_, rfl⟩
        rw [← hex] at HB69 HGP
        have HEX := hid hex
        obtain ⟨q0, q1, q2, q3⟩ := HB69.out.c4.1
        clear hex t0 t2 t3 x9
        cases ex with
        | true =>
          rw [if_pos rfl] at HGP
          obtain ⟨⟨a0, a1⟩, ⟨a2, a3⟩, ⟨a4, a5⟩, ⟨a6, a7⟩, b9⟩ := HB49.out.store4 (.slice A8 LB.length c8) (.int .i64 C) (.bool true) (.int .i64 0)
          have HX10 := hid ((((HX9.out.setCell (p := ⟨g4, 0, none⟩) (HGG.out.2.2.1) (.slice A8 LB.length c8)).setCell (p := ⟨g4, 1, none⟩) (HGG.out.2.2.1) (.int .i64 C)).setCell (p := ⟨g4, 2, none⟩) (HGG.out.2.2.1) (.bool true)).setCell (p := ⟨g4, 3, none⟩) (HGG.out.2.2.1) (.int .i64 0))
          have HO10 := hid ((((HO9.out.setCell (p := ⟨g4, 0, none⟩) (fun hm => (HF8.out _ hm).2 rfl) (.slice A8 LB.length c8)).setCell (p := ⟨g4, 1, none⟩) (fun hm => (HF8.out _ hm).2 rfl) (.int .i64 C)).setCell (p := ⟨g4, 2, none⟩) (fun hm => (HF8.out _ hm).2 rfl) (.bool true)).setCell (p := ⟨g4, 3, none⟩) (fun hm => (HF8.out _ hm).2 rfl) (.int .i64 0))
          rw [hW9] at q0 q1 q2 q3 a0 a1 a2 a3 a4 a5 a6 a7 b9 HX10 HO10
          clear hW9
          go_wp2
          obtain ⟨⟨r0, r1, r2, r3⟩, _⟩ := b9.c4
          refine bodyPost_ret (v := .tuple #[.agg #[.slice A8 LB.length c8, .int .i64 C, .bool true, .int .i64 0], .bool true]) (by simp [results, Tryz.results7, go_sem, r0, r1, r2, r3]) rfl ?_
          exact ⟨_, F8, by rw [HC9.out, HLB.out, ← HEX.out, HGP.out], by rw [← HLB.out]; exact HO10.out, HN8.out, HX10.out⟩
        | false =>
          rw [if_neg (by decide)] at HGP
          obtain ⟨hgp, hgl⟩ := greedy_pack HM.out
          have HGI := hid (fun (W : World) (y : Ext w W) => impl_GreedyPacking _ m W (HH.out.mono y) HM.out)
          have HGA := hid (fun (W : World) (y : Ext w W) (z q : Value) (k : Sl intR W z LB) (r : Sl triangleR W q (greedyL m)) => impl_OptimalityGap _ z q m LB (greedyL m) W (HH.out.mono y) k r HM.out hgp hgl HLP.out.1 HLP.out.2)
          rw [← HC9.out] at HGA
          have HGV := hid (show clGap m l = C - sumT (greedyL m) from by rw [HGP.out, HC9.out, HLB.out]; rfl)
          have hsb := sumT_bd (l := greedyL m) fun t ht => (hgp.tri t ht).2
          obtain ⟨sg, hsg⟩ : ∃ s, s = sumT (greedyL m) := ⟨_, rfl⟩
          rw [← hsg] at HGA HGV hsb
          clear hgp hsg
          have HQ := hid q0
          rw [hW9] at q0 q2
          go_wp2_with fail
          rw [← hW9]
          clear hW9 q0 q2
          refine wp_region_J 7 (fun w' => w'.cell? ⟨g6, 0, none⟩ = some (.slice A8 LB.length c8)) (by kernel_rfl) ?_
          refine wpAnyJ_take (i := 0) (v := ?v0z) (by simp only [List.getElem?_toArray, List.getElem?_cons_succ, List.getElem?_cons_zero, Option.some.injEq]; exact rfl) (by kernel_rfl) (by kernel_rfl) (by kernel_rfl) (by kernel_rfl) (by exact fun _ _ _ h => h) (Or.inl ⟨by rfl, fun w9 hS9 => ?hy0z⟩) (by exact HQ.out) ?rest0z
          case hy0z => (try dsimp only at hS9); go_simp <;> with_reducible rfl
          try simp only [Act.put, List.setIfInBounds_toArray, List.set_cons_zero, List.set_cons_succ]
          refine wpAnyJ_take (i := 1) (v := ?v1z) (by simp only [List.getElem?_toArray, List.getElem?_cons_succ, List.getElem?_cons_zero, Option.some.injEq]; exact rfl) (by kernel_rfl) (by kernel_rfl) (by kernel_rfl) (by kernel_rfl) (by exact fun _ _ _ h => h) (Or.inl ⟨by rfl, fun w9 hS9 => ?hy1z⟩) (by exact HQ.out) ?rest1z
          case hy1z => (try dsimp only at hS9); go_simp <;> with_reducible rfl
          try simp only [Act.put, List.setIfInBounds_toArray, List.set_cons_zero, List.set_cons_succ]
          refine wpAnyJ_take (i := 2) (v := ?v2z) (by simp only [List.getElem?_toArray, List.getElem?_cons_succ, List.getElem?_cons_zero, Option.some.injEq]; exact rfl) (by kernel_rfl) (by kernel_rfl) (by kernel_rfl) (by kernel_rfl) (by exact fun _ _ _ h => h) (Or.inl ⟨by rfl, fun w9 hS9 => ?hy2z⟩) (by exact HQ.out) ?rest2z
          case hy2z => (try dsimp only at hS9); go_simp <;> with_reducible rfl
          try simp only [Act.put, List.setIfInBounds_toArray, List.set_cons_zero, List.set_cons_succ]
          refine wpAnyJ_take (i := 3) (v := ?v3z) (by simp only [List.getElem?_toArray, List.getElem?_cons_succ, List.getElem?_cons_zero, Option.some.injEq]; exact rfl) (by kernel_rfl) (by kernel_rfl) (by kernel_rfl) (by kernel_rfl) (by exact fun _ _ _ h => h) (Or.inl ⟨by rfl, fun w9 hS9 => ?hy3z⟩) (by exact HQ.out) ?rest3z
          case hy3z => (try dsimp only at hS9); go_simp <;> with_reducible rfl
          try simp only [Act.put, List.setIfInBounds_toArray, List.set_cons_zero, List.set_cons_succ]
          refine wpAnyJ_one (i := 4) (by simp only [List.getElem?_toArray, List.getElem?_cons_succ, List.getElem?_cons_zero, Option.some.injEq]; exact rfl) (by kernel_rfl) (fun K hK => ?_)
          go_simp
          refine (HGI.out _ HX9.out.drew).mono ?_
          rintro e wg ⟨vg, Fg, rfl, og, ng, xg⟩
          have xg0 : Ext W9 wg := (Ext.refl W9).drew.trans xg
          obtain ⟨Ag, cg, eg, _⟩ := og.form
          subst eg
          refine hK _ _ (xg0.cell HQ.out) ?_
          try simp only [Act.put, List.setIfInBounds_toArray, List.set_cons_zero, List.set_cons_succ]
          clear hK K
          refine wpAnyJ_one (i := 5) (by simp only [List.getElem?_toArray, List.getElem?_cons_succ, List.getElem?_cons_zero, Option.some.injEq]; exact rfl) (by kernel_rfl) (fun K hK => ?_)
          go_simp
          refine (HGA.out wg (HX9.out.trans xg0) _ _ (HO9.out.ext xg0).sl og.sl).mono ?_
          rintro e wh ⟨rfl, xh⟩
          have xh0 : Ext W9 wh := xg0.trans xh
          refine hK _ _ (xh0.cell HQ.out) ?_
          try simp only [Act.put, List.setIfInBounds_toArray, List.set_cons_zero, List.set_cons_succ]
          clear hK K
          refine wpAnyJ_one (i := 6) (by simp only [List.getElem?_toArray, List.getElem?_cons_succ, List.getElem?_cons_zero, Option.some.injEq]; exact rfl) (by kernel_rfl) (fun K hK => ?_)
          go_simp
          refine hK _ _ (xh0.cell HQ.out) ?_
          try simp only [Act.put, List.setIfInBounds_toArray, List.set_cons_zero, List.set_cons_succ]
          clear hK K
          have b6h := HB69.out.ext xh0
          have c6h : wh.cell? ⟨g6, 3, none⟩ = some (.int .i64 0) := b6h.cells.1 3
          have f6h := b6h.cells.2 3
          have b4h := (HB49.out.ext xh0).other (g2 := g6) (i := 3) (u := .int .i64 (C - sg)) (by have := HGG.out; omega)
          have HB6H := hid (b6h.set3 (.int .i64 (C - sg)))
          have HB4H := hid b4h
          have HOH := hid ((HO9.out.ext xh0).setCell (p := ⟨g6, 3, none⟩) (fun hm => (HF8.out _ hm).1 rfl) (.int .i64 (C - sg)))
          have HXH := hid ((HX9.out.trans xh0).setCell (p := ⟨g6, 3, none⟩) (by have := HGG.out; show w.heap.size ≤ g6; omega) (.int .i64 (C - sg)))
          clear b6h b4h
          refine wpAnyJ_last (by simp only [List.getElem?_toArray, List.getElem?_cons_succ, List.getElem?_cons_zero, Option.some.injEq]; exact rfl) (by kernel_rfl) (by kernel_rfl) (fun K hK => ?_)
          go_simp
          refine hK _ _ ?_
          clear hK K c6h f6h
          obtain ⟨WH, hWH⟩ : ∃ W, W = wh.setCell ⟨g6, 3, none⟩ (.int .i64 (C - sg)) := ⟨_, rfl⟩
          rw [← hWH] at HB6H HB4H HOH HXH ⊢
          clear hWH
          obtain ⟨p0, p1, p2, p3⟩ := HB6H.out.c4.1
          obtain ⟨⟨a0, a1⟩, ⟨a2, a3⟩, ⟨a4, a5⟩, ⟨a6, a7⟩, b9⟩ := HB4H.out.store4 (.slice A8 LB.length c8) (.int .i64 C) (.bool false) (.int .i64 (C - sg))
          have HX10 := hid ((((HXH.out.setCell (p := ⟨g4, 0, none⟩) (HGG.out.2.2.1) (.slice A8 LB.length c8)).setCell (p := ⟨g4, 1, none⟩) (HGG.out.2.2.1) (.int .i64 C)).setCell (p := ⟨g4, 2, none⟩) (HGG.out.2.2.1) (.bool false)).setCell (p := ⟨g4, 3, none⟩) (HGG.out.2.2.1) (.int .i64 (C - sg)))
          have HO10 := hid ((((HOH.out.setCell (p := ⟨g4, 0, none⟩) (fun hm => (HF8.out _ hm).2 rfl) (.slice A8 LB.length c8)).setCell (p := ⟨g4, 1, none⟩) (fun hm => (HF8.out _ hm).2 rfl) (.int .i64 C)).setCell (p := ⟨g4, 2, none⟩) (fun hm => (HF8.out _ hm).2 rfl) (.bool false)).setCell (p := ⟨g4, 3, none⟩) (fun hm => (HF8.out _ hm).2 rfl) (.int .i64 (C - sg)))
          go_wp2
          obtain ⟨⟨r0, r1, r2, r3⟩, _⟩ := b9.c4
          refine bodyPost_ret (v := .tuple #[.agg #[.slice A8 LB.length c8, .int .i64 C, .bool false, .int .i64 (C - sg)], .bool true]) (by simp [results, Tryz.results7, go_sem, r0, r1, r2, r3]) rfl ?_
          exact ⟨_, F8, by rw [HC9.out, HLB.out, ← HEX.out, ← HLB.out, ← HC9.out, HGV.out], by rw [← HLB.out]; exact HO10.out, HN8.out, HX10.out⟩
end Go.Proofs.YtidchfncfcckiaaGreat

namespace Go.Proofs.YtidchfncfcckiaaGreat
open Go.RowKit

def rowSub (m : List (List Int)) (it : List Int) (X : Nat) : List Int := it.map fun y => ent m X y.toNat
theorem rowSub_take {m : List (List Int)} {it : List Int} {X q Y : Nat} (h : q < it.length) (hY : it[q] = (Y : Int)) : rowSub m (it.take (q + 1)) X = rowSub m (it.take q) X ++ [ent m X Y] := by
  unfold rowSub
  rw [List.take_succ_eq_append_getElem h, List.map_append, List.map_singleton, hY, Int.toNat_natCast]
def rowsSub (m : List (List Int)) (it : List Int) (k : Nat) : List (List Int) := (it.take k).map fun x => rowSub m it x.toNat
theorem rowsSub_take {m : List (List Int)} {it : List Int} {X k : Nat} (h : k < it.length) (hX : it[k] = (X : Int)) : rowsSub m it (k + 1) = rowsSub m it k ++ [rowSub m it X] := by
  unfold rowsSub
  rw [List.take_succ_eq_append_getElem h, List.map_append, List.map_singleton, hX, Int.toNat_natCast]
theorem rowsSub_all (m : List (List Int)) (it : List Int) : rowsSub m it it.length = subM m it := by
  unfold rowsSub subM rowSub
  rw [List.take_length]

set_option maxHeartbeats 4000000 in
set_option maxRecDepth 20000 in
theorem spec_SubMatrix (v u : Value) (m : List (List Int)) (it : List Int) (w : World) (h : Sl (slR intR) w v m) (k : Sl intR w u it) (hm : WM m) (hi : ItemsB m.length it) :
    Calls Tryz.prog 43 #[v, u] w fun e w2 => ∃ v2 F, e = .returned v2 ∧ OwnSl (slO intO) w2 v2 (subM m it) F ∧ NewF w F ∧ Ext w w2 := by
  have HWM := hid (fun (W : World) (y : Ext w W) => spec_IsWeightMatrix v m W (h.mono y))
  rw [wmB_yes hm] at HWM
  obtain ⟨A, cap, rfl, hm1⟩ := h.form
  obtain ⟨B, cap2, rfl, hm2⟩ := k.form
  have hl8 : it.length ≤ 8 := by have := hi.len; have := hm.n8; omega
  have HT := hid (fun (p q : Nat) (hp : p < m.length) (hq : q < m.length) => mat_cells h hm hp hq)
  have HBD := hid (fun (p q : Nat) (hp : p < m.length) (hq : q < m.length) => (show I64 (ent m p q) from by have := hm.bd p q hp hq; unfold I64; omega))
  have hmn := hm.n8
  have HK := hid k
  have HI := hid hi
  have HW := hid (fun (W : World) (X : Nat) (hX : X < m.length) => (show Calls Tryz.prog 92 #[.int .i64 X, .int .i64 0, .int .i64 ((m.length : Int) - 1)] W fun e w2 => e = .returned (.bool true) ∧ W = w2 from by
    have := spec_l1In (X : Int) 0 ((m.length : Int) - 1) W
    rwa [show inB (X : Int) 0 ((m.length : Int) - 1) = true from by unfold inB; rw [decide_eq_true_eq]; omega] at this))
  obtain ⟨n, hn⟩ : ∃ n, n = m.length := ⟨_, rfl⟩
  rw [← hn] at HT HBD HI HW hmn
  rw [← hn] at HWM ⊢
  clear h k hm hi hn
  go_enter Tryz.func43, Tryz.ntmps43
  go_wp2_with fail
  refine (HWM.out _ ((Ext.refl w).alloc _)).mono ?_
  rintro e w2 ⟨rfl, x2⟩
  have HX2 := hid (((Ext.refl w).alloc (.cells #[] 28)).trans x2)
  have HB2 := hid ((Bld.lit (R := slO intO) w (Nat.le_refl _) 28).ext x2)
  clear x2
  go_wp2_with fail
  go_loopw [5, 6] (fun t i wr => ∃ (k : Nat) (F : List Nat), k ≤ it.length ∧ i = .int .i64 k ∧ Bld (slO intO) wr w.heap.size 28 t (rowsSub m it k) F ∧ Ext w wr) (fun _ i _ => it.length - (intOf i).toNat)
  case atStart => exact ⟨0, [], Nat.zero_le _, rfl, HB2.out, HX2.out⟩
  case round =>
    clear HB2 HX2
    obtain ⟨k, F, hk, rfl, hB, hx⟩ := hrel
    by_cases hlt : k < it.length
    · obtain ⟨bi, oi, eB, _, hc⟩ := (HK.out.mono hx).int hlt
      subst eB
      have hbx := HI.out.bd k hlt
      obtain ⟨X, hXe⟩ : ∃ x : Nat, it.getD k 0 = x := ⟨(it.getD k 0).toNat, by omega⟩
      have hX2 : it[k] = (X : Int) := by rw [← getD_getElem (d := 0) hlt]; exact hXe
      rw [hX2] at hc
      have hXm : X < n := by omega
      have HXE := hid hX2
      have HW1 := hid (fun (W : World) => HW.out W X hXm)
      have y0 := fun (z : ExtOf wr) => z.2.cell hc
      have hprev : ((0 : Int) < (k : Int)) ∧ (∃ p : Int, (∀ z : ExtOf wr, z.1.cell? ⟨bi, oi + (k - 1), none⟩ = some (.int .i64 p)) ∧ decide ((X : Int) ≤ p) = false) ∨ k = 0 := by
        by_cases h0 : k = 0
        · exact .inr h0
        · left
          refine ⟨by omega, it[k - 1], ?_⟩
          obtain ⟨bi2, oi2, eB, _, hc2⟩ := (HK.out.mono hx).int (i := k - 1) (by omega)
          injection eB with e9
          injection e9 with e8 e7 q3
          clear q3
          subst e8; subst e7
          refine ⟨fun z => z.2.cell hc2, ?_⟩
          have := HI.out.asc (k - 1) k (by omega) hlt
          rw [getD_getElem (show k - 1 < it.length by omega), hXe] at this
          rw [decide_eq_false_iff_not]
          omega
      have HB := hid hB
      have HX := hid hx
      clear hbx hXe hX2 hc hB hx
      rcases hprev with ⟨hk0, p, y1, hdp⟩ | hk00
      · have hk1 : decide (0 < k) = true := by rw [decide_eq_true_eq]; omega
        have hk2 : (0 : Int) ≤ (k : Int) - 1 := by omega
        have hk3 : (k : Int) - 1 < (it.length : Int) := by omega
        have hk4 : ((k : Int) - 1).toNat = k - 1 := by omega
        go_wp2_with fail
        refine wp_region_ext (by kernel_rfl) (by kernel_rfl) ?_
        repeat (go_big_quiet_step (((go_at_call 92; with_reducible exact quiet_same (HW1.out _)))))
        refine wpQuiet_nil ?_
        rintro w5 ⟨⟨_, x5⟩, rfl⟩
        clear y1 hdp hk0 hk1 hk2 hk3 hk4
        have HB5 := hid (HB.out.ext x5)
        have HX5 := hid (HX.out.trans x5)
        have hs5 : (w5.alloc (.cells #[] 3)).heap.size = w5.heap.size + 1 := by simp
        have HL5 := hid (Bld.lit (R := intO) w5 (Nat.le_refl _) 3)
        clear x5 y0 hs5
        go_wp2_with fail
        go_loopw [7, 8] (fun t i wr => ∃ q : Nat, q ≤ it.length ∧ i = .int .i64 q ∧ Bld intO wr w5.heap.size 3 t (rowSub m (it.take q) X) [] ∧ Ext w5 wr) (fun _ i _ => it.length - (intOf i).toNat)
        case atStart => exact ⟨0, Nat.zero_le _, rfl, HL5.out, (Ext.refl _).alloc _⟩
        case round =>
          clear HL5
          obtain ⟨q, hq, rfl, hR, hx⟩ := hrel
          by_cases hqt : q < it.length
          · have hby := HI.out.bd q hqt
            obtain ⟨Y, hYe⟩ : ∃ x : Nat, it.getD q 0 = x := ⟨(it.getD q 0).toNat, by omega⟩
            have hY2 : it[q] = (Y : Int) := by rw [← getD_getElem (d := 0) hqt]; exact hYe
            have hYm : Y < n := by omega
            have HRT := hid (rowSub_take (m := m) (X := X) hqt hY2)
            have HYE := hid hY2
            have HW2 := hid (fun (W : World) => HW.out W Y hYm)
            have HCELL := hid (fun (W : World) (y : Ext w5 W) => (HK.out.mono (HX5.out.trans y)).int hlt)
            have HCELL2 := hid (fun (W : World) (y : Ext w5 W) => (HK.out.mono (HX5.out.trans y)).int hqt)
            obtain ⟨bi2, oi2, eB, _, hc2⟩ := HCELL2.out wr hx
            injection eB with e9
            injection e9 with e8 e7 q3
            clear q3
            subst e8; subst e7
            rw [hY2] at hc2
            have HR := hid hR
            have HXW := hid hx
            obtain ⟨bm, om, br, or, cr, eA, ht⟩ := HT.out X Y hXm hYm
            subst eA
            have HTT := hid ht
            have HEI := hid (HBD.out X Y hXm hYm)
            have hrl : (rowSub m (it.take q) X).length = q := by unfold rowSub; rw [List.length_map, List.length_take]; omega
            have HRL := hid (show (rowSub m (it.take q) X).length + 1 ≤ 1099511627776 by omega)
            obtain ⟨z, hz⟩ : ∃ z, z = ent m X Y := ⟨_, rfl⟩
            rw [← hz] at HRT HTT HEI
            obtain ⟨A7, c7, e7, _⟩ := hR.sl.form
            subst e7
            obtain ⟨R, hRR⟩ : ∃ R, R = rowSub m (it.take q) X := ⟨_, rfl⟩
            rw [← hRR] at HRT HR HRL ⊢
            clear hby hYe hY2 hR hx ht hrl hz hRR
            go_wp2_with (go_at_call 92; refine (HW2.out _).mono ?_; rintro e w3 ⟨rfl, rfl⟩)
            obtain ⟨wd, hwd⟩ : ∃ wd : World, wd = wr.drew := ⟨_, rfl⟩
            have HWD := hid hwd
            have xd : Ext wr wd := by rw [hwd]; exact (Ext.refl _).drew
            have hx9 : Ext w5 wd := HXW.out.trans xd
            obtain ⟨bi2, oi2, eB, _, cx⟩ := HCELL.out wd hx9
            injection eB with e9
            injection e9 with e8 e7 q3
            clear q3
            subst e8; subst e7
            obtain ⟨bi2, oi2, eB, _, cy⟩ := HCELL2.out wd hx9
            injection eB with e9
            injection e9 with e8 e7 q3
            clear q3
            subst e8; subst e7
            rw [HXE.out] at cx
            rw [HYE.out] at cy
            obtain ⟨ct, cz⟩ := HTT.out wd (HX5.out.trans hx9)
            have cS : wd.cell? ⟨bi, oi + k, none⟩ = some (.int .i64 X) ∧ wd.cell? ⟨bi, oi + q, none⟩ = some (.int .i64 Y) ∧ wd.cell? ⟨bm, om + X, none⟩ = some (.slice (some ⟨br, or, none⟩) n cr) ∧ wd.cell? ⟨br, or + Y, none⟩ = some (.int .i64 z) := ⟨cx, cy, ct, cz⟩
            have HKS := hid (fun (W : World) (y : Ext wd W) => (show W.cell? ⟨bi, oi + k, none⟩ = some (.int .i64 X) ∧ W.cell? ⟨bi, oi + q, none⟩ = some (.int .i64 Y) ∧ W.cell? ⟨bm, om + X, none⟩ = some (.slice (some ⟨br, or, none⟩) n cr) ∧ W.cell? ⟨br, or + Y, none⟩ = some (.int .i64 z) from ⟨y.cell cx, y.cell cy, y.cell ct, y.cell cz⟩))
            have HRD := hid (HR.out.ext xd)
            have HX9 := hid hx9
            clear cx cy ct cz hwd xd hx9 hc2
            refine wp_region_J 16 (fun w' => w'.cell? ⟨bi, oi + k, none⟩ = some (.int .i64 X) ∧ w'.cell? ⟨bi, oi + q, none⟩ = some (.int .i64 Y) ∧ w'.cell? ⟨bm, om + X, none⟩ = some (.slice (some ⟨br, or, none⟩) n cr) ∧ w'.cell? ⟨br, or + Y, none⟩ = some (.int .i64 z)) (by kernel_rfl) ?_
            rw [← HWD.out]
            refine wpAnyJ_take (i := 0) (v := ?v0z) (by simp only [List.getElem?_toArray, List.getElem?_cons_succ, List.getElem?_cons_zero, Option.some.injEq]; exact rfl) (by kernel_rfl) (by kernel_rfl) (by kernel_rfl) (by kernel_rfl) (by exact fun _ _ _ h => h) (Or.inl ⟨by rfl, fun w9 hS9 => ?hy0z⟩) (by exact cS) ?rest0z
            case hy0z => (try dsimp only at hS9); go_simp <;> with_reducible rfl
            try simp only [Act.put, List.setIfInBounds_toArray, List.set_cons_zero, List.set_cons_succ]
            refine wpAnyJ_take (i := 1) (v := ?v1z) (by simp only [List.getElem?_toArray, List.getElem?_cons_succ, List.getElem?_cons_zero, Option.some.injEq]; exact rfl) (by kernel_rfl) (by kernel_rfl) (by kernel_rfl) (by kernel_rfl) (by exact fun _ _ _ h => h) (Or.inl ⟨by rfl, fun w9 hS9 => ?hy1z⟩) (by exact cS) ?rest1z
            case hy1z => (try dsimp only at hS9); go_simp <;> with_reducible rfl
            try simp only [Act.put, List.setIfInBounds_toArray, List.set_cons_zero, List.set_cons_succ]
            refine wpAnyJ_take (i := 2) (v := ?v2z) (by simp only [List.getElem?_toArray, List.getElem?_cons_succ, List.getElem?_cons_zero, Option.some.injEq]; exact rfl) (by kernel_rfl) (by kernel_rfl) (by kernel_rfl) (by kernel_rfl) (by exact fun _ _ _ h => h) (Or.inl ⟨by rfl, fun w9 hS9 => ?hy2z⟩) (by exact cS) ?rest2z
            case hy2z => (try dsimp only at hS9); go_simp <;> with_reducible rfl
            try simp only [Act.put, List.setIfInBounds_toArray, List.set_cons_zero, List.set_cons_succ]
            refine wpAnyJ_take (i := 3) (v := ?v3z) (by simp only [List.getElem?_toArray, List.getElem?_cons_succ, List.getElem?_cons_zero, Option.some.injEq]; exact rfl) (by kernel_rfl) (by kernel_rfl) (by kernel_rfl) (by kernel_rfl) (by exact fun _ _ _ h => h) (Or.inl ⟨by rfl, fun w9 hS9 => ?hy3z⟩) (by exact cS) ?rest3z
            case hy3z => (try dsimp only at hS9); go_simp <;> with_reducible rfl
            try simp only [Act.put, List.setIfInBounds_toArray, List.set_cons_zero, List.set_cons_succ]
            refine wpAnyJ_take (i := 4) (v := ?v4z) (by simp only [List.getElem?_toArray, List.getElem?_cons_succ, List.getElem?_cons_zero, Option.some.injEq]; exact rfl) (by kernel_rfl) (by kernel_rfl) (by kernel_rfl) (by kernel_rfl) (by exact fun _ _ _ h => h) (Or.inl ⟨by rfl, fun w9 hS9 => ?hy4z⟩) (by exact cS) ?rest4z
            case hy4z => (try dsimp only at hS9); go_simp <;> with_reducible rfl
            try simp only [Act.put, List.setIfInBounds_toArray, List.set_cons_zero, List.set_cons_succ]
            refine wpAnyJ_take (i := 5) (v := ?v5z) (by simp only [List.getElem?_toArray, List.getElem?_cons_succ, List.getElem?_cons_zero, Option.some.injEq]; exact rfl) (by kernel_rfl) (by kernel_rfl) (by kernel_rfl) (by kernel_rfl) (by exact fun _ _ _ h => h) (Or.inl ⟨by rfl, fun w9 hS9 => ?hy5z⟩) (by exact cS) ?rest5z
            case hy5z => (try dsimp only at hS9); go_simp <;> with_reducible rfl
            try simp only [Act.put, List.setIfInBounds_toArray, List.set_cons_zero, List.set_cons_succ]
            refine wpAnyJ_take (i := 6) (v := ?v6z) (by simp only [List.getElem?_toArray, List.getElem?_cons_succ, List.getElem?_cons_zero, Option.some.injEq]; exact rfl) (by kernel_rfl) (by kernel_rfl) (by kernel_rfl) (by kernel_rfl) (by exact fun _ _ _ h => h) (Or.inl ⟨by rfl, fun w9 hS9 => ?hy6z⟩) (by exact cS) ?rest6z
            case hy6z => (try dsimp only at hS9); go_simp <;> with_reducible rfl
            try simp only [Act.put, List.setIfInBounds_toArray, List.set_cons_zero, List.set_cons_succ]
            refine wpAnyJ_take (i := 7) (v := ?v7z) (by simp only [List.getElem?_toArray, List.getElem?_cons_succ, List.getElem?_cons_zero, Option.some.injEq]; exact rfl) (by kernel_rfl) (by kernel_rfl) (by kernel_rfl) (by kernel_rfl) (by exact fun _ _ _ h => h) (Or.inl ⟨by rfl, fun w9 hS9 => ?hy7z⟩) (by exact cS) ?rest7z
            case hy7z => (try dsimp only at hS9); go_simp <;> with_reducible rfl
            try simp only [Act.put, List.setIfInBounds_toArray, List.set_cons_zero, List.set_cons_succ]
            refine wpAnyJ_take (i := 8) (v := ?v8z) (by simp only [List.getElem?_toArray, List.getElem?_cons_succ, List.getElem?_cons_zero, Option.some.injEq]; exact rfl) (by kernel_rfl) (by kernel_rfl) (by kernel_rfl) (by kernel_rfl) (by exact fun _ _ _ h => h) (Or.inl ⟨by rfl, fun w9 hS9 => ?hy8z⟩) (by exact cS) ?rest8z
            case hy8z => (try dsimp only at hS9); go_simp <;> with_reducible rfl
            try simp only [Act.put, List.setIfInBounds_toArray, List.set_cons_zero, List.set_cons_succ]
            refine wpAnyJ_take (i := 9) (v := ?v9z) (by simp only [List.getElem?_toArray, List.getElem?_cons_succ, List.getElem?_cons_zero, Option.some.injEq]; exact rfl) (by kernel_rfl) (by kernel_rfl) (by kernel_rfl) (by kernel_rfl) (by exact fun _ _ _ h => h) (Or.inl ⟨by rfl, fun w9 hS9 => ?hy9z⟩) (by exact cS) ?rest9z
            case hy9z => (try dsimp only at hS9); go_simp <;> with_reducible rfl
            try simp only [Act.put, List.setIfInBounds_toArray, List.set_cons_zero, List.set_cons_succ]
            refine wpAnyJ_take (i := 10) (v := ?v10z) (by simp only [List.getElem?_toArray, List.getElem?_cons_succ, List.getElem?_cons_zero, Option.some.injEq]; exact rfl) (by kernel_rfl) (by kernel_rfl) (by kernel_rfl) (by kernel_rfl) (by exact fun _ _ _ h => h) (Or.inl ⟨by rfl, fun w9 hS9 => ?hy10z⟩) (by exact cS) ?rest10z
            case hy10z => (try dsimp only at hS9); go_simp <;> with_reducible rfl
            try simp only [Act.put, List.setIfInBounds_toArray, List.set_cons_zero, List.set_cons_succ]
            refine wpAnyJ_take (i := 11) (v := ?v11z) (by simp only [List.getElem?_toArray, List.getElem?_cons_succ, List.getElem?_cons_zero, Option.some.injEq]; exact rfl) (by kernel_rfl) (by kernel_rfl) (by kernel_rfl) (by kernel_rfl) (by exact fun _ _ _ h => h) (Or.inl ⟨by rfl, fun w9 hS9 => ?hy11z⟩) (by exact cS) ?rest11z
            case hy11z => (try dsimp only at hS9); go_simp <;> with_reducible rfl
            try simp only [Act.put, List.setIfInBounds_toArray, List.set_cons_zero, List.set_cons_succ]
            refine wpAnyJ_take (i := 12) (v := ?v12z) (by simp only [List.getElem?_toArray, List.getElem?_cons_succ, List.getElem?_cons_zero, Option.some.injEq]; exact rfl) (by kernel_rfl) (by kernel_rfl) (by kernel_rfl) (by kernel_rfl) (by exact fun _ _ _ h => h) (Or.inl ⟨by rfl, fun w9 hS9 => ?hy12z⟩) (by exact cS) ?rest12z
            case hy12z => (try dsimp only at hS9); go_simp <;> with_reducible rfl
            try simp only [Act.put, List.setIfInBounds_toArray, List.set_cons_zero, List.set_cons_succ]
            refine wpAnyJ_take (i := 13) (v := ?v13z) (by simp only [List.getElem?_toArray, List.getElem?_cons_succ, List.getElem?_cons_zero, Option.some.injEq]; exact rfl) (by kernel_rfl) (by kernel_rfl) (by kernel_rfl) (by kernel_rfl) (by exact fun _ _ _ h => h) (Or.inl ⟨by rfl, fun w9 hS9 => ?hy13z⟩) (by exact cS) ?rest13z
            case hy13z => (try dsimp only at hS9); go_simp <;> with_reducible rfl
            try simp only [Act.put, List.setIfInBounds_toArray, List.set_cons_zero, List.set_cons_succ]
            refine wpAnyJ_one (i := 14) (by simp only [List.getElem?_toArray, List.getElem?_cons_succ, List.getElem?_cons_zero, Option.some.injEq]; exact rfl) (by kernel_rfl) (fun K hK => ?_)
            go_simp
            have xa1 : Ext wd (wd.alloc (.cells #[.int .i64 z] 3)) := (Ext.refl _).alloc _
            refine hK _ _ (HKS.out _ xa1) ?_
            try simp only [Act.put, List.setIfInBounds_toArray, List.set_cons_zero, List.set_cons_succ]
            clear hK K
            refine wpAnyJ_one (i := 15) (by simp only [List.getElem?_toArray, List.getElem?_cons_succ, List.getElem?_cons_zero, Option.some.injEq]; exact rfl) (by kernel_rfl) (fun K hK => ?_)
            refine step_app1j (R := intO) elemInt (by decide) rfl _ _ rfl (HRD.out.ext xa1) rfl wd.heap.size 1 rfl (heap_alloc_new wd _) (one_int _) (y := z) (own_int _ _ HEI.out) fresh_nil HRL.out (by decide) (Nat.le_trans HX9.out.size xa1.size) (w0 := w5) (Nat.le_refl _) (HX9.out.trans xa1) ?_
            intro v8 w8 hB8 hE8 hA8
            obtain ⟨bi2, oi2, eB, _, cx⟩ := HCELL.out w8 hE8
            injection eB with e9
            injection e9 with e8 e7 q3
            clear q3
            subst e8; subst e7
            obtain ⟨bi2, oi2, eB, _, cy⟩ := HCELL2.out w8 hE8
            injection eB with e9
            injection e9 with e8 e7 q3
            clear q3
            subst e8; subst e7
            rw [HXE.out] at cx
            rw [HYE.out] at cy
            obtain ⟨ct, cz⟩ := HTT.out w8 (HX5.out.trans hE8)
            refine hK _ _ ⟨cx, cy, ct, cz⟩ ?_
            try simp only [Act.put, List.setIfInBounds_toArray, List.set_cons_zero, List.set_cons_succ]
            clear hK K cx cy ct cz
            refine wpAnyJ_last (by simp only [List.getElem?_toArray, List.getElem?_cons_succ, List.getElem?_cons_zero, Option.some.injEq]; exact rfl) (by kernel_rfl) (by kernel_rfl) (fun K hK => ?_)
            go_simp
            refine hK _ _ ?_
            clear hK K
            go_wp2
            go_roundw
            case rel => exact ⟨q + 1, by omega, by go_num, by rw [HRT.out]; exact hB8, hE8⟩
            case measure => simp [intOf]; omega
          · have hqe : q = it.length := by omega
            subst hqe
            rw [List.take_length] at hR
            obtain ⟨F7, o7, n7, f7⟩ := hR.done
            obtain ⟨A7, c7, e7, _⟩ := o7.form
            subst e7
            have HBW := hid (HB5.out.ext hx)
            have HFR := hid (HB5.out.fresh (G := F7) ⟨n7, f7⟩ HX5.out.size)
            have HO := hid (show (slO intO).own wr (#[Value.slice A7 (rowSub m it X).length c7] : Array Value).toList (rowSub m it X) F7 from ⟨_, rfl, o7⟩)
            have HXW := hid (HX5.out.trans hx)
            have HST := hid (rowsSub_take (m := m) hlt HXE.out)
            have HSZ := hid (show (rowsSub m it k).length + 1 ≤ 1099511627776 by unfold rowsSub; rw [List.length_map, List.length_take]; omega)
            clear hR o7 n7 f7 hx
            go_wp2_with (at_builtin; refine wpList_app1 (R := slO intO) elemInts Nat.one_pos rfl _ _ rfl HBW.out rfl _ 1 rfl (by simp) (one_slice _ _ _) HO.out HFR.out HSZ.out (by decide) HXW.out.size ?_; intro v9 w9 hB9 hE9)
            go_roundw
            case rel => exact ⟨k + 1, _, by omega, by go_num, by rw [HST.out]; exact hB9, hE9 w (Nat.le_refl _) HXW.out⟩
            case measure => simp [intOf]; omega
      · have hk1 : decide (0 < k) = false := by rw [decide_eq_false_iff_not]; omega
        clear hk00
        go_wp2_with fail
        refine wp_region_ext (by kernel_rfl) (by kernel_rfl) ?_
        repeat (go_big_quiet_step (((go_at_call 92; with_reducible exact quiet_same (HW1.out _)))))
        refine wpQuiet_nil ?_
        rintro w5 ⟨⟨_, x5⟩, rfl⟩
        clear hk1
        have HB5 := hid (HB.out.ext x5)
        have HX5 := hid (HX.out.trans x5)
        have hs5 : (w5.alloc (.cells #[] 3)).heap.size = w5.heap.size + 1 := by simp
        have HL5 := hid (Bld.lit (R := intO) w5 (Nat.le_refl _) 3)
        clear x5 y0 hs5
        go_wp2_with fail
        go_loopw [7, 8] (fun t i wr => ∃ q : Nat, q ≤ it.length ∧ i = .int .i64 q ∧ Bld intO wr w5.heap.size 3 t (rowSub m (it.take q) X) [] ∧ Ext w5 wr) (fun _ i _ => it.length - (intOf i).toNat)
        case atStart => exact ⟨0, Nat.zero_le _, rfl, HL5.out, (Ext.refl _).alloc _⟩
        case round =>
          clear HL5
          obtain ⟨q, hq, rfl, hR, hx⟩ := hrel
          by_cases hqt : q < it.length
          · have hby := HI.out.bd q hqt
            obtain ⟨Y, hYe⟩ : ∃ x : Nat, it.getD q 0 = x := ⟨(it.getD q 0).toNat, by omega⟩
            have hY2 : it[q] = (Y : Int) := by rw [← getD_getElem (d := 0) hqt]; exact hYe
            have hYm : Y < n := by omega
            have HRT := hid (rowSub_take (m := m) (X := X) hqt hY2)
            have HYE := hid hY2
            have HW2 := hid (fun (W : World) => HW.out W Y hYm)
            have HCELL := hid (fun (W : World) (y : Ext w5 W) => (HK.out.mono (HX5.out.trans y)).int hlt)
            have HCELL2 := hid (fun (W : World) (y : Ext w5 W) => (HK.out.mono (HX5.out.trans y)).int hqt)
            obtain ⟨bi2, oi2, eB, _, hc2⟩ := HCELL2.out wr hx
            injection eB with e9
            injection e9 with e8 e7 q3
            clear q3
            subst e8; subst e7
            rw [hY2] at hc2
            have HR := hid hR
            have HXW := hid hx
            obtain ⟨bm, om, br, or, cr, eA, ht⟩ := HT.out X Y hXm hYm
            subst eA
            have HTT := hid ht
            have HEI := hid (HBD.out X Y hXm hYm)
            have hrl : (rowSub m (it.take q) X).length = q := by unfold rowSub; rw [List.length_map, List.length_take]; omega
            have HRL := hid (show (rowSub m (it.take q) X).length + 1 ≤ 1099511627776 by omega)
            obtain ⟨z, hz⟩ : ∃ z, z = ent m X Y := ⟨_, rfl⟩
            rw [← hz] at HRT HTT HEI
            obtain ⟨A7, c7, e7, _⟩ := hR.sl.form
            subst e7
            obtain ⟨R, hRR⟩ : ∃ R, R = rowSub m (it.take q) X := ⟨_, rfl⟩
            rw [← hRR] at HRT HR HRL ⊢
            clear hby hYe hY2 hR hx ht hrl hz hRR
            go_wp2_with (go_at_call 92; refine (HW2.out _).mono ?_; rintro e w3 ⟨rfl, rfl⟩)
            obtain ⟨wd, hwd⟩ : ∃ wd : World, wd = wr.drew := ⟨_, rfl⟩
            have HWD := hid hwd
            have xd : Ext wr wd := by rw [hwd]; exact (Ext.refl _).drew
            have hx9 : Ext w5 wd := HXW.out.trans xd
            obtain ⟨bi2, oi2, eB, _, cx⟩ := HCELL.out wd hx9
            injection eB with e9
            injection e9 with e8 e7 q3
            clear q3
            subst e8; subst e7
            obtain ⟨bi2, oi2, eB, _, cy⟩ := HCELL2.out wd hx9
            injection eB with e9
            injection e9 with e8 e7 q3
            clear q3
            subst e8; subst e7
            rw [HXE.out] at cx
            rw [HYE.out] at cy
            obtain ⟨ct, cz⟩ := HTT.out wd (HX5.out.trans hx9)
            have cS : wd.cell? ⟨bi, oi + k, none⟩ = some (.int .i64 X) ∧ wd.cell? ⟨bi, oi + q, none⟩ = some (.int .i64 Y) ∧ wd.cell? ⟨bm, om + X, none⟩ = some (.slice (some ⟨br, or, none⟩) n cr) ∧ wd.cell? ⟨br, or + Y, none⟩ = some (.int .i64 z) := ⟨cx, cy, ct, cz⟩
            have HKS := hid (fun (W : World) (y : Ext wd W) => (show W.cell? ⟨bi, oi + k, none⟩ = some (.int .i64 X) ∧ W.cell? ⟨bi, oi + q, none⟩ = some (.int .i64 Y) ∧ W.cell? ⟨bm, om + X, none⟩ = some (.slice (some ⟨br, or, none⟩) n cr) ∧ W.cell? ⟨br, or + Y, none⟩ = some (.int .i64 z) from ⟨y.cell cx, y.cell cy, y.cell ct, y.cell cz⟩))
            have HRD := hid (HR.out.ext xd)
            have HX9 := hid hx9
            clear cx cy ct cz hwd xd hx9 hc2
            refine wp_region_J 16 (fun w' => w'.cell? ⟨bi, oi + k, none⟩ = some (.int .i64 X) ∧ w'.cell? ⟨bi, oi + q, none⟩ = some (.int .i64 Y) ∧ w'.cell? ⟨bm, om + X, none⟩ = some (.slice (some ⟨br, or, none⟩) n cr) ∧ w'.cell? ⟨br, or + Y, none⟩ = some (.int .i64 z)) (by kernel_rfl) ?_
            rw [← HWD.out]
            refine wpAnyJ_take (i := 0) (v := ?v0y) (by simp only [List.getElem?_toArray, List.getElem?_cons_succ, List.getElem?_cons_zero, Option.some.injEq]; exact rfl) (by kernel_rfl) (by kernel_rfl) (by kernel_rfl) (by kernel_rfl) (by exact fun _ _ _ h => h) (Or.inl ⟨by rfl, fun w9 hS9 => ?hy0y⟩) (by exact cS) ?rest0y
            case hy0y => (try dsimp only at hS9); go_simp <;> with_reducible rfl
            try simp only [Act.put, List.setIfInBounds_toArray, List.set_cons_zero, List.set_cons_succ]
            refine wpAnyJ_take (i := 1) (v := ?v1y) (by simp only [List.getElem?_toArray, List.getElem?_cons_succ, List.getElem?_cons_zero, Option.some.injEq]; exact rfl) (by kernel_rfl) (by kernel_rfl) (by kernel_rfl) (by kernel_rfl) (by exact fun _ _ _ h => h) (Or.inl ⟨by rfl, fun w9 hS9 => ?hy1y⟩) (by exact cS) ?rest1y
            case hy1y => (try dsimp only at hS9); go_simp <;> with_reducible rfl
            try simp only [Act.put, List.setIfInBounds_toArray, List.set_cons_zero, List.set_cons_succ]
            refine wpAnyJ_take (i := 2) (v := ?v2y) (by simp only [List.getElem?_toArray, List.getElem?_cons_succ, List.getElem?_cons_zero, Option.some.injEq]; exact rfl) (by kernel_rfl) (by kernel_rfl) (by kernel_rfl) (by kernel_rfl) (by exact fun _ _ _ h => h) (Or.inl ⟨by rfl, fun w9 hS9 => ?hy2y⟩) (by exact cS) ?rest2y
            case hy2y => (try dsimp only at hS9); go_simp <;> with_reducible rfl
            try simp only [Act.put, List.setIfInBounds_toArray, List.set_cons_zero, List.set_cons_succ]
            refine wpAnyJ_take (i := 3) (v := ?v3y) (by simp only [List.getElem?_toArray, List.getElem?_cons_succ, List.getElem?_cons_zero, Option.some.injEq]; exact rfl) (by kernel_rfl) (by kernel_rfl) (by kernel_rfl) (by kernel_rfl) (by exact fun _ _ _ h => h) (Or.inl ⟨by rfl, fun w9 hS9 => ?hy3y⟩) (by exact cS) ?rest3y
            case hy3y => (try dsimp only at hS9); go_simp <;> with_reducible rfl
            try simp only [Act.put, List.setIfInBounds_toArray, List.set_cons_zero, List.set_cons_succ]
            refine wpAnyJ_take (i := 4) (v := ?v4y) (by simp only [List.getElem?_toArray, List.getElem?_cons_succ, List.getElem?_cons_zero, Option.some.injEq]; exact rfl) (by kernel_rfl) (by kernel_rfl) (by kernel_rfl) (by kernel_rfl) (by exact fun _ _ _ h => h) (Or.inl ⟨by rfl, fun w9 hS9 => ?hy4y⟩) (by exact cS) ?rest4y
            case hy4y => (try dsimp only at hS9); go_simp <;> with_reducible rfl
            try simp only [Act.put, List.setIfInBounds_toArray, List.set_cons_zero, List.set_cons_succ]
            refine wpAnyJ_take (i := 5) (v := ?v5y) (by simp only [List.getElem?_toArray, List.getElem?_cons_succ, List.getElem?_cons_zero, Option.some.injEq]; exact rfl) (by kernel_rfl) (by kernel_rfl) (by kernel_rfl) (by kernel_rfl) (by exact fun _ _ _ h => h) (Or.inl ⟨by rfl, fun w9 hS9 => ?hy5y⟩) (by exact cS) ?rest5y
            case hy5y => (try dsimp only at hS9); go_simp <;> with_reducible rfl
            try simp only [Act.put, List.setIfInBounds_toArray, List.set_cons_zero, List.set_cons_succ]
            refine wpAnyJ_take (i := 6) (v := ?v6y) (by simp only [List.getElem?_toArray, List.getElem?_cons_succ, List.getElem?_cons_zero, Option.some.injEq]; exact rfl) (by kernel_rfl) (by kernel_rfl) (by kernel_rfl) (by kernel_rfl) (by exact fun _ _ _ h => h) (Or.inl ⟨by rfl, fun w9 hS9 => ?hy6y⟩) (by exact cS) ?rest6y
            case hy6y => (try dsimp only at hS9); go_simp <;> with_reducible rfl
            try simp only [Act.put, List.setIfInBounds_toArray, List.set_cons_zero, List.set_cons_succ]
            refine wpAnyJ_take (i := 7) (v := ?v7y) (by simp only [List.getElem?_toArray, List.getElem?_cons_succ, List.getElem?_cons_zero, Option.some.injEq]; exact rfl) (by kernel_rfl) (by kernel_rfl) (by kernel_rfl) (by kernel_rfl) (by exact fun _ _ _ h => h) (Or.inl ⟨by rfl, fun w9 hS9 => ?hy7y⟩) (by exact cS) ?rest7y
            case hy7y => (try dsimp only at hS9); go_simp <;> with_reducible rfl
            try simp only [Act.put, List.setIfInBounds_toArray, List.set_cons_zero, List.set_cons_succ]
            refine wpAnyJ_take (i := 8) (v := ?v8y) (by simp only [List.getElem?_toArray, List.getElem?_cons_succ, List.getElem?_cons_zero, Option.some.injEq]; exact rfl) (by kernel_rfl) (by kernel_rfl) (by kernel_rfl) (by kernel_rfl) (by exact fun _ _ _ h => h) (Or.inl ⟨by rfl, fun w9 hS9 => ?hy8y⟩) (by exact cS) ?rest8y
            case hy8y => (try dsimp only at hS9); go_simp <;> with_reducible rfl
            try simp only [Act.put, List.setIfInBounds_toArray, List.set_cons_zero, List.set_cons_succ]
            refine wpAnyJ_take (i := 9) (v := ?v9y) (by simp only [List.getElem?_toArray, List.getElem?_cons_succ, List.getElem?_cons_zero, Option.some.injEq]; exact rfl) (by kernel_rfl) (by kernel_rfl) (by kernel_rfl) (by kernel_rfl) (by exact fun _ _ _ h => h) (Or.inl ⟨by rfl, fun w9 hS9 => ?hy9y⟩) (by exact cS) ?rest9y
            case hy9y => (try dsimp only at hS9); go_simp <;> with_reducible rfl
            try simp only [Act.put, List.setIfInBounds_toArray, List.set_cons_zero, List.set_cons_succ]
            refine wpAnyJ_take (i := 10) (v := ?v10y) (by simp only [List.getElem?_toArray, List.getElem?_cons_succ, List.getElem?_cons_zero, Option.some.injEq]; exact rfl) (by kernel_rfl) (by kernel_rfl) (by kernel_rfl) (by kernel_rfl) (by exact fun _ _ _ h => h) (Or.inl ⟨by rfl, fun w9 hS9 => ?hy10y⟩) (by exact cS) ?rest10y
            case hy10y => (try dsimp only at hS9); go_simp <;> with_reducible rfl
            try simp only [Act.put, List.setIfInBounds_toArray, List.set_cons_zero, List.set_cons_succ]
            refine wpAnyJ_take (i := 11) (v := ?v11y) (by simp only [List.getElem?_toArray, List.getElem?_cons_succ, List.getElem?_cons_zero, Option.some.injEq]; exact rfl) (by kernel_rfl) (by kernel_rfl) (by kernel_rfl) (by kernel_rfl) (by exact fun _ _ _ h => h) (Or.inl ⟨by rfl, fun w9 hS9 => ?hy11y⟩) (by exact cS) ?rest11y
            case hy11y => (try dsimp only at hS9); go_simp <;> with_reducible rfl
            try simp only [Act.put, List.setIfInBounds_toArray, List.set_cons_zero, List.set_cons_succ]
            refine wpAnyJ_take (i := 12) (v := ?v12y) (by simp only [List.getElem?_toArray, List.getElem?_cons_succ, List.getElem?_cons_zero, Option.some.injEq]; exact rfl) (by kernel_rfl) (by kernel_rfl) (by kernel_rfl) (by kernel_rfl) (by exact fun _ _ _ h => h) (Or.inl ⟨by rfl, fun w9 hS9 => ?hy12y⟩) (by exact cS) ?rest12y
            case hy12y => (try dsimp only at hS9); go_simp <;> with_reducible rfl
            try simp only [Act.put, List.setIfInBounds_toArray, List.set_cons_zero, List.set_cons_succ]
            refine wpAnyJ_take (i := 13) (v := ?v13y) (by simp only [List.getElem?_toArray, List.getElem?_cons_succ, List.getElem?_cons_zero, Option.some.injEq]; exact rfl) (by kernel_rfl) (by kernel_rfl) (by kernel_rfl) (by kernel_rfl) (by exact fun _ _ _ h => h) (Or.inl ⟨by rfl, fun w9 hS9 => ?hy13y⟩) (by exact cS) ?rest13y
            case hy13y => (try dsimp only at hS9); go_simp <;> with_reducible rfl
            try simp only [Act.put, List.setIfInBounds_toArray, List.set_cons_zero, List.set_cons_succ]
            refine wpAnyJ_one (i := 14) (by simp only [List.getElem?_toArray, List.getElem?_cons_succ, List.getElem?_cons_zero, Option.some.injEq]; exact rfl) (by kernel_rfl) (fun K hK => ?_)
            go_simp
            have xa1 : Ext wd (wd.alloc (.cells #[.int .i64 z] 3)) := (Ext.refl _).alloc _
            refine hK _ _ (HKS.out _ xa1) ?_
            try simp only [Act.put, List.setIfInBounds_toArray, List.set_cons_zero, List.set_cons_succ]
            clear hK K
            refine wpAnyJ_one (i := 15) (by simp only [List.getElem?_toArray, List.getElem?_cons_succ, List.getElem?_cons_zero, Option.some.injEq]; exact rfl) (by kernel_rfl) (fun K hK => ?_)
            refine step_app1j (R := intO) elemInt (by decide) rfl _ _ rfl (HRD.out.ext xa1) rfl wd.heap.size 1 rfl (heap_alloc_new wd _) (one_int _) (y := z) (own_int _ _ HEI.out) fresh_nil HRL.out (by decide) (Nat.le_trans HX9.out.size xa1.size) (w0 := w5) (Nat.le_refl _) (HX9.out.trans xa1) ?_
            intro v8 w8 hB8 hE8 hA8
            obtain ⟨bi2, oi2, eB, _, cx⟩ := HCELL.out w8 hE8
            injection eB with e9
            injection e9 with e8 e7 q3
            clear q3
            subst e8; subst e7
            obtain ⟨bi2, oi2, eB, _, cy⟩ := HCELL2.out w8 hE8
            injection eB with e9
            injection e9 with e8 e7 q3
            clear q3
            subst e8; subst e7
            rw [HXE.out] at cx
            rw [HYE.out] at cy
            obtain ⟨ct, cz⟩ := HTT.out w8 (HX5.out.trans hE8)
            refine hK _ _ ⟨cx, cy, ct, cz⟩ ?_
            try simp only [Act.put, List.setIfInBounds_toArray, List.set_cons_zero, List.set_cons_succ]
            clear hK K cx cy ct cz
            refine wpAnyJ_last (by simp only [List.getElem?_toArray, List.getElem?_cons_succ, List.getElem?_cons_zero, Option.some.injEq]; exact rfl) (by kernel_rfl) (by kernel_rfl) (fun K hK => ?_)
            go_simp
            refine hK _ _ ?_
            clear hK K
            go_wp2
            go_roundw
            case rel => exact ⟨q + 1, by omega, by go_num, by rw [HRT.out]; exact hB8, hE8⟩
            case measure => simp [intOf]; omega
          · have hqe : q = it.length := by omega
            subst hqe
            rw [List.take_length] at hR
            obtain ⟨F7, o7, n7, f7⟩ := hR.done
            obtain ⟨A7, c7, e7, _⟩ := o7.form
            subst e7
            have HBW := hid (HB5.out.ext hx)
            have HFR := hid (HB5.out.fresh (G := F7) ⟨n7, f7⟩ HX5.out.size)
            have HO := hid (show (slO intO).own wr (#[Value.slice A7 (rowSub m it X).length c7] : Array Value).toList (rowSub m it X) F7 from ⟨_, rfl, o7⟩)
            have HXW := hid (HX5.out.trans hx)
            have HST := hid (rowsSub_take (m := m) hlt HXE.out)
            have HSZ := hid (show (rowsSub m it k).length + 1 ≤ 1099511627776 by unfold rowsSub; rw [List.length_map, List.length_take]; omega)
            clear hR o7 n7 f7 hx
            go_wp2_with (at_builtin; refine wpList_app1 (R := slO intO) elemInts Nat.one_pos rfl _ _ rfl HBW.out rfl _ 1 rfl (by simp) (one_slice _ _ _) HO.out HFR.out HSZ.out (by decide) HXW.out.size ?_; intro v9 w9 hB9 hE9)
            go_roundw
            case rel => exact ⟨k + 1, _, by omega, by go_num, by rw [HST.out]; exact hB9, hE9 w (Nat.le_refl _) HXW.out⟩
            case measure => simp [intOf]; omega
    · have hkl : k = it.length := by omega
      subst hkl
      rw [rowsSub_all] at hB
      obtain ⟨F', q1, q2, q3⟩ := hB.done
      clear hB
      go_wp2
      go_ret
      exact ⟨_, F', rfl, q1, ⟨q2, q3⟩, hx⟩
end Go.Proofs.YtidchfncfcckiaaGreat

namespace Go.Proofs.YtidchfncfcckiaaGreat
open Go.RowKit

def badC (p : List Int) (c : Constraint) : Bool := c.b == (p.length : Int) - 1 && !((p.getD c.a.toNat 0 == p.getD (p.length - 1) 0) == c.same)
theorem last_no {p : List Int} {l : List Constraint} {c : Constraint} (hc : c ∈ l) (h : badC p c = true) : lastOk p l = false := by
  cases hb : lastOk p l with
  | false => rfl
  | true =>
    have := List.all_eq_true.1 hb c hc
    unfold badC at h
    rw [h] at this
    cases this
theorem last_yes {p : List Int} {l : List Constraint} (h : ∀ c ∈ l, badC p c = false) : lastOk p l = true := by
  unfold lastOk
  rw [List.all_eq_true]
  intro c hc
  have := h c hc
  unfold badC at this
  rw [this]
  rfl

set_option maxHeartbeats 4000000 in
set_option maxRecDepth 20000 in
theorem spec_l20Bad (gs : Nat) (B : Option Addr) (cap2 : Nat) (v : Value) (p : List Int) (l : List Constraint) (w : World) (h0 : Sl intR w v p) (h : Sl constraintR w (.slice B l.length cap2) l) (hg : w.cell? ⟨gs, 1, none⟩ = some (.slice B l.length cap2)) (hp : 0 < p.length)
    (hl : ∀ c ∈ l, 0 ≤ c.a ∧ c.a < c.b) :
    Calls Tryz.prog 142 #[.pointer (some ⟨gs, 0, none⟩), v] w fun e w2 => e = .returned (.bool (!lastOk p l)) ∧ Ext w w2 := by
  obtain ⟨A, cap, rfl, hm2⟩ := h0.form
  have hcap := h0.cap_
  have H0 := hid h0
  have HL := hid hl
  have HG := hid (fun (W : World) (y : Ext w W) => y.cell hg)
  have hpp : (0 : Int) ≤ (p.length : Int) - 1 := by omega
  have hpl : (p.length : Int) - 1 < (p.length : Int) := by omega
  have hpt : ((p.length : Int) - 1).toNat = p.length - 1 := by omega
  have hlc := h.cap_
  clear h0 hl
  go_enter Tryz.func142, Tryz.ntmps142
  go_wp2_with fail
  go_loopw [6] (fun t wr => ∃ k : Nat, k ≤ l.length ∧ t = .int .i64 k ∧ (∀ c ∈ l.take k, badC p c = false) ∧ Ext w wr) (fun t _ => l.length - (intOf t).toNat)
  case atStart => exact ⟨0, Nat.zero_le _, rfl, fun c hc => absurd hc (by simp), Ext.refl _⟩
  case round =>
    obtain ⟨k, hk, rfl, hok, hx⟩ := hrel
    have HOK := hid hok
    have hgw := HG.out wr hx
    clear hok hg
    by_cases hlt : k < l.length
    · obtain ⟨b, off, rfl, hokk, d0, d1, d2⟩ := (h.mono hx).constraint hlt
      have hc := HL.out l[k] (List.getElem_mem hlt)
      have HMEM := hid (List.getElem_mem hlt)
      have HTK := hid (List.take_succ_eq_append_getElem hlt)
      have hbc : badC p l[k] = (l[k].b == (p.length : Int) - 1 && !((p.getD l[k].a.toNat 0 == p.getD (p.length - 1) 0) == l[k].same)) := rfl
      obtain ⟨c, hce⟩ : ∃ c, c = l[k] := ⟨_, rfl⟩
      rw [← hce] at hc HMEM HTK hbc d0 d1 d2
      have HST := hid (fun (q : badC p c = false) => (show ∀ x ∈ l.take (k + 1), badC p x = false from fun x hx => by
        rw [HTK.out] at hx
        rcases List.mem_append.1 hx with hx | hx
        · exact HOK.out x hx
        · rw [List.mem_singleton] at hx; subst hx; exact q))
      have HNO := hid (fun (q : badC p c = true) => last_no HMEM.out q)
      obtain ⟨ca, cb, sm⟩ := c
      dsimp only at hbc d0 d1 d2 hc
      have y0 := fun (z : ExtOf wr) => z.2.cell d0
      have y1 := fun (z : ExtOf wr) => z.2.cell d1
      have y2 := fun (z : ExtOf wr) => z.2.cell d2
      have y9 := fun (z : ExtOf wr) => z.2.cell hgw
      have HX := hid hx
      clear hce hokk d0 d1 d2
      cases he : (cb == (p.length : Int) - 1) with
      | false =>
        rw [he, Bool.false_and] at hbc
        have HN := hid (HST.out hbc)
        clear hbc hx hc
        go_wp2_with fail
        refine wp_region_ext (by kernel_rfl) (by kernel_rfl) ?_
        repeat (go_big_quiet_step ((fail)))
        refine wpQuiet_nil ?_
        rintro w5 ⟨⟨_, x5⟩, rfl⟩
        go_wp2
        go_roundw
        case rel => exact ⟨k + 1, by omega, by go_num, HN.out, HX.out.trans x5⟩
        case measure => simp [intOf]; omega
      | true =>
        have he2 := (beq_iff_eq).1 he
        obtain ⟨a, ha⟩ : ∃ a : Nat, ca = a := ⟨ca.toNat, by omega⟩
        subst ha
        have hap : a < p.length := by omega
        have hnp : p.length - 1 < p.length := by omega
        obtain ⟨b', off', eA, i1, c1⟩ := (H0.out.mono hx).int hap
        subst eA
        obtain ⟨b2, off2, eB, i2, c2⟩ := (H0.out.mono hx).int hnp
        injection eB with e9
        injection e9 with e8 e7 q3
        clear q3
        subst e8; subst e7
        rw [he, Bool.true_and, Int.toNat_natCast, getD_getElem hap, getD_getElem hnp] at hbc
        obtain ⟨x, hxe⟩ : ∃ x, x = p[a] := ⟨_, rfl⟩
        obtain ⟨y, hye⟩ : ∃ x, x = p[p.length - 1] := ⟨_, rfl⟩
        rw [← hxe] at c1 hbc
        rw [← hye] at c2 hbc
        have y3 := fun (z : ExtOf wr) => z.2.cell c1
        have y4 := fun (z : ExtOf wr) => z.2.cell c2
        obtain ⟨d, hd⟩ : ∃ d, (x == y) = d := ⟨_, rfl⟩
        rw [hd] at hbc
        have hap2 : (a : Int) < (p.length : Int) := by omega
        clear hxe hye hx hc he2 c1 c2 i1 i2 hap hnp
        by_cases hds : d = sm
        · have HN := hid (HST.out (by rw [hbc, hds]; simp))
          have hcase : (d = true ∧ sm = true) ∨ (d = false ∧ sm = false) := by subst hds; cases d <;> simp
          clear hbc hds
          rcases hcase with ⟨rfl, rfl⟩ | ⟨rfl, rfl⟩
          · go_wp2_with fail
            refine wp_region_ext (by kernel_rfl) (by kernel_rfl) ?_
            repeat (go_big_quiet_step ((fail)))
            refine wpQuiet_nil ?_
            rintro w5 ⟨⟨_, x5⟩, rfl⟩
            go_wp2
            go_roundw
            case rel => exact ⟨k + 1, by omega, by go_num, HN.out, HX.out.trans x5⟩
            case measure => simp [intOf]; omega
          · go_wp2_with fail
            refine wp_region_ext (by kernel_rfl) (by kernel_rfl) ?_
            repeat (go_big_quiet_step ((fail)))
            refine wpQuiet_nil ?_
            rintro w5 ⟨⟨_, x5⟩, rfl⟩
            go_wp2
            go_roundw
            case rel => exact ⟨k + 1, by omega, by go_num, HN.out, HX.out.trans x5⟩
            case measure => simp [intOf]; omega
        · have HN := hid (HNO.out (by rw [hbc]; cases d <;> cases sm <;> first | exact absurd rfl hds | rfl))
          have hcase : (d = true ∧ sm = false) ∨ (d = false ∧ sm = true) := by cases d <;> cases sm <;> first | exact absurd rfl hds | simp
          clear hbc hds
          rcases hcase with ⟨rfl, rfl⟩ | ⟨rfl, rfl⟩
          · go_wp2_with fail
            refine wp_region_ext (by kernel_rfl) (by kernel_rfl) ?_
            repeat (go_big_quiet_step ((fail)))
            refine wpQuiet_nil ?_
            rintro w5 ⟨⟨_, x5⟩, rfl⟩
            go_wp2
            go_ret
            exact ⟨ret_bool (by rw [HN.out]; rfl), HX.out.trans x5⟩
          · go_wp2_with fail
            refine wp_region_ext (by kernel_rfl) (by kernel_rfl) ?_
            repeat (go_big_quiet_step ((fail)))
            refine wpQuiet_nil ?_
            rintro w5 ⟨⟨_, x5⟩, rfl⟩
            go_wp2
            go_ret
            exact ⟨ret_bool (by rw [HN.out]; rfl), HX.out.trans x5⟩
    · have hkl : k = l.length := by omega
      have HN := hid (last_yes fun c hc => HOK.out c (by rw [hkl, List.take_length]; exact hc))
      subst hkl
      go_wp2
      go_ret
      exact ⟨ret_bool (by rw [HN.out]; rfl), hx⟩
end Go.Proofs.YtidchfncfcckiaaGreat

namespace Go.Proofs.YtidchfncfcckiaaGreat
open Go.RowKit

/-- the last place of x among the first q -/
def lastP (x : Int) (S : List Int) : Nat → Int
  | 0 => -1
  | q + 1 => if S.getD q 0 = x then q else lastP x S q
theorem lastP_bd (x : Int) (S : List Int) : ∀ q, -1 ≤ lastP x S q ∧ lastP x S q < q
  | 0 => by simp [lastP]
  | q + 1 => by
    have := lastP_bd x S q
    rw [lastP]
    split <;> omega
theorem lastP_no {x : Int} {S : List Int} : ∀ q, (∀ j, j < q → S.getD j 0 ≠ x) → lastP x S q = -1
  | 0, _ => rfl
  | q + 1, h => by
    rw [lastP, if_neg (h q (by omega))]
    exact lastP_no q fun j hj => h j (by omega)
theorem lastP_yes {x : Int} {S : List Int} {j : Nat} (h0 : S.getD j 0 = x) : ∀ q, j < q → (∀ i, i < q → S.getD i 0 = x → i = j) → lastP x S q = j
  | 0, h, _ => absurd h (Nat.not_lt_zero _)
  | q + 1, h, hu => by
    rw [lastP]
    by_cases e : S.getD q 0 = x
    · rw [if_pos e, hu q (by omega) e]
    · rw [if_neg e]
      have : j ≠ q := fun e2 => e (e2 ▸ h0)
      exact lastP_yes h0 q (by omega) fun i hi => hu i (by omega)
theorem lastP_eq {x : Int} {S : List Int} (h : S.Nodup) : lastP x S S.length = idxI x S := by
  rcases idxI_cases x S with ⟨h1, h2⟩ | ⟨j, hj, h1, h2, h3⟩
  · rw [h1]
    exact lastP_no _ fun j hj e => h2 (e ▸ getD_mem hj)
  · rw [h1]
    refine lastP_yes h2 _ hj fun i hi e => ?_
    rw [getD_getElem hi] at e
    rw [getD_getElem hj] at h2
    exact (List.getElem_inj h).1 (e.trans h2.symm)
theorem seen_nodup : ∀ (n : Nat) (l : List Int), l.length = n → (seenL l).Nodup
  | 0, l, h => by
    have : l = [] := List.eq_nil_of_length_eq_zero h
    subst this
    exact List.nodup_nil
  | n + 1, l, h => by
    rcases List.eq_nil_or_concat l with rfl | ⟨p, x, rfl⟩
    · simp at h
    · rw [List.concat_eq_append] at h ⊢
      have ih := seen_nodup n p (by simpa using h)
      rw [seenL_snoc]
      unfold seenSt
      split
      · rename_i h0
        have hx := idxI_neg.1 h0
        refine List.nodup_append.2 ⟨ih, by simp, fun a ha b hb e => ?_⟩
        rw [List.mem_singleton] at hb
        subst e; subst hb
        exact hx ha
      · exact ih

set_option maxHeartbeats 1000000 in
set_option maxRecDepth 20000 in
theorem spec_CanonicalLabels (v : Value) (l : List Int) (w : World) (h : Sl intR w v l) (hl : l.length ≤ 1048576) :
    Calls Tryz.prog 50 #[v] w fun e w2 => ∃ v2 F, e = .returned v2 ∧ OwnSl intO w2 v2 (canonL l) F ∧ NewF w F ∧ Ext w w2 := by
  obtain ⟨A, cap, rfl, hm⟩ := h.form
  go_enter Tryz.func50, Tryz.ntmps50
  go_wp2
  go_loopw [3, 4, 5] (fun t4 t3 i wr => ∃ k : Nat, k ≤ l.length ∧ i = .int .i64 k ∧ Bld intO wr w.heap.size 3 t3 (seenL (l.take k)) [] ∧ Bld intO wr w.heap.size 3 t4 (canonL (l.take k)) [] ∧ (∀ b, t3.ownBlock = some b → t4.ownBlock ≠ some b) ∧ Ext w wr) (fun _ _ i _ => l.length - (intOf i).toNat)
  case atStart =>
    have o1 := Bld.lit (R := intO) w (Nat.le_refl _) 3
    have x1 : Ext w (w.alloc (.cells #[] 3)) := (Ext.refl _).alloc _
    have o2 := Bld.lit (R := intO) (w.alloc (.cells #[] 3)) (Nat.le_refl _) 3
    have o3 := Bld.lit (R := intO) (w.alloc (.cells #[] 3)) x1.size 3
    have hs : (w.alloc (.cells #[] 3)).heap.size = w.heap.size + 1 := by simp
    have b1 := fun b e => o1.lt.2 b e
    have b2 := fun b e => o2.lt.2 b e
    rw [hs] at o3 b1 b2
    exact ⟨0, Nat.zero_le _, rfl, o3, o1.ext ((Ext.refl _).alloc _), (fun b hb e => by have := (b1 b e).1; have := (b2 b hb).2; omega), x1.alloc _⟩
  case round =>
    obtain ⟨k, hk, rfl, hB3, hB4, hD, hx⟩ := hrel
    by_cases hlt : k < l.length
    · obtain ⟨e1, e2⟩ := seen_take hlt
      have hsl := seenL_len _ (l.take k) rfl
      have hcl := canonL_len (l.take k)
      have hnd := seen_nodup _ (l.take k) rfl
      rw [List.length_take] at hsl hcl
      obtain ⟨S, hS⟩ : ∃ S, S = seenL (l.take k) := ⟨_, rfl⟩
      obtain ⟨C, hC⟩ : ∃ C, C = canonL (l.take k) := ⟨_, rfl⟩
      rw [← hS] at hB3 e1 e2 hsl hnd
      rw [← hC] at hB4 e2 hcl
      obtain ⟨x, hxe⟩ : ∃ x, x = l[k] := ⟨_, rfl⟩
      rw [← hxe] at e1 e2
      have hil := @idxI_last x S
      have hng := @idxI_neg x S
      have hbd := idxI_bd x S
      have hat := lastP_eq (x := x) hnd
      have hsC : C.length + 1 ≤ 1099511627776 := by omega
      have hsS : S.length + 1 ≤ 1099511627776 := by omega
      have HSC := hid (And.intro hsC hsS)
      have HB3 := hid hB3
      have HB4 := hid hB4
      have HX := hid hx
      have HXE := hid hxe
      have HH := hid (fun (W : World) (y : Ext w W) => (h.mono y).int hlt)
      have HAT := hid hat
      have hs3 := hB3.sl.form
      obtain ⟨A3, c3, e3, _⟩ := hs3
      subst e3
      have HSL := hid (fun (W : World) (y : Ext wr W) => (hB3.sl).mono y)
      have hsm : S.length ≤ 1048576 := by omega
      obtain ⟨w0, hw0⟩ : ∃ w0, w0 = wr := ⟨_, rfl⟩
      rw [← hw0] at HSL HX HB3 HB4 ⊢
      clear hB3 hB4 hx hxe hat hsl hcl hS hC hsC hsS hnd hw0
      go_wp2_with fail
      go_loopw [6, 7] (fun t i wr => ∃ q : Nat, q ≤ S.length ∧ i = .int .i64 q ∧ t = .int .i64 (lastP x S q) ∧ Ext w0 wr) (fun _ i _ => S.length - (intOf i).toNat)
      case atStart => exact ⟨0, Nat.zero_le _, rfl, rfl, Ext.refl _⟩
      case round =>
        obtain ⟨q, hq, rfl, rfl, hx⟩ := hrel
        have hbq := lastP_bd x S q
        have HST := hid (show lastP x S (q + 1) = if S.getD q 0 = x then (q : Int) else lastP x S q from rfl)
        by_cases hqs : q < S.length
        · obtain ⟨b1, o1, eA, _, c1⟩ := (HSL.out wr hx).int hqs
          subst eA
          obtain ⟨b2, o2, eB, _, c2⟩ := HH.out wr (HX.out.trans hx)
          subst eB
          rw [← HXE.out] at c2
          rw [getD_getElem hqs] at HST
          obtain ⟨t, ht⟩ : ∃ t, t = lastP x S q := ⟨_, rfl⟩
          rw [← ht] at hbq HST ⊢
          obtain ⟨y, hy⟩ : ∃ y, y = S[q] := ⟨_, rfl⟩
          rw [← hy] at c1 HST
          have y1 := fun (z : ExtOf wr) => z.2.cell c1
          have y2 := fun (z : ExtOf wr) => z.2.cell c2
          clear c1 c2 ht hy e1 e2 hil hng hbd
          by_cases hyx : y = x
          · have hd : (y == x) = true := by simp [hyx]
            rw [if_pos hyx] at HST
            clear hyx
            go_wp2_with fail
            refine wp_region_ext (by kernel_rfl) (by kernel_rfl) ?_
            repeat (go_big_quiet_step ((fail)))
            refine wpQuiet_nil ?_
            rintro w5 ⟨⟨_, x5⟩, rfl⟩
            go_wp2
            go_roundw
            case rel => exact ⟨q + 1, by omega, by go_num, by rw [HST.out], hx.trans x5⟩
            case measure => simp [intOf]; omega
          · have hd : (y == x) = false := by simp [hyx]
            rw [if_neg hyx] at HST
            clear hyx
            go_wp2_with fail
            refine wp_region_ext (by kernel_rfl) (by kernel_rfl) ?_
            repeat (go_big_quiet_step ((fail)))
            refine wpQuiet_nil ?_
            rintro w5 ⟨⟨_, x5⟩, rfl⟩
            go_wp2
            go_roundw
            case rel => exact ⟨q + 1, by omega, by go_num, by rw [HST.out], hx.trans x5⟩
            case measure => simp [intOf]; omega
        · have hqs2 : q = S.length := by omega
          subst hqs2
          rw [HAT.out]
          obtain ⟨b2, o2, eB, hix, c2⟩ := HH.out wr (HX.out.trans hx)
          subst eB
          rw [← HXE.out] at c2 hix
          obtain ⟨ix, hixe⟩ : ∃ ix, ix = idxI x S := ⟨_, rfl⟩
          rw [← hixe] at hbd hng
          rw [← hixe]
          have HB3' := hid (HB3.out.ext hx)
          have HB4' := hid (HB4.out.ext hx)
          have HX2 := hid (HX.out.trans hx)
          by_cases hneg : ix < 0
          · have HE := hid (show seenL (l.take (k + 1)) = S ++ [x] ∧ canonL (l.take (k + 1)) = C ++ [(S.length : Int)] from by
              have hn := hng.1 hneg
              have e9 : seenSt S x = S ++ [x] := by unfold seenSt; rw [if_pos (by rw [← hixe]; exact hneg)]
              rw [e1, e2, e9]
              exact ⟨rfl, by rw [hil hn]⟩)
            have HXS := hid (show I64 x ∧ I64 (S.length : Int) from ⟨hix, by unfold I64; omega⟩)
            clear e1 e2 hil hng hixe hix hbq HST HB3 HB4 hx hqs hq
            go_wp2_with (first | (at_builtin; refine wpList_app1h (R := intO) elemInt (by decide) rfl _ _ rfl HB3'.out rfl _ 1 rfl (by simp) (one_int _) (y := x) (own_int _ _ HXS.out.1) fresh_nil HSC.out.2 (by decide) HX2.out.size ?_; intro v9 w9 hB9 hE9 hA9; have hx9 := hE9 w (Nat.le_refl _) HX2.out; have hB49 := HB4'.out.stayI (w2 := w9) (fun b hb => hA9.keep b (HB4'.out.lt.2 b hb).1 fun e => hD b e hb)) | (at_builtin; refine wpList_app1h (R := intO) elemInt (by decide) rfl _ _ rfl hB49 rfl _ 1 rfl (by simp) (one_int _) (y := (S.length : Int)) (own_int _ _ HXS.out.2) fresh_nil HSC.out.1 (by decide) hx9.size ?_; intro v8 w8 hB8 hE8 hA8))
            go_roundw
            case rel => exact ⟨k + 1, by omega, by go_num, by rw [HE.out.1]; exact hB9.stayI fun b hb => hA8.keep b (hB9.lt.2 b hb).1 fun e => (hA9.own b hb).elim (fun e3 => hD b e3 e) fun e3 => by have := (HB4'.out.lt.2 b e).1; omega, by rw [HE.out.2]; exact hB8, (fun b hb => by
              rcases hA9.own b hb with e | e
              · exact fun e2 => (hA8.own b e2).elim (fun e3 => hD b e e3) fun e3 => by have := (HB3'.out.lt.2 b e).1; have := hA9.size; omega
              · exact fun e2 => (hA8.own b e2).elim (fun e3 => by have := (HB4'.out.lt.2 b e3).1; omega) fun e3 => by have := (hB9.lt.2 b hb).1; omega), hE8 w (Nat.le_refl _) hx9⟩
            case measure => simp [intOf]; omega
          · have hpos : 0 ≤ ix := by omega
            have HE := hid (show seenL (l.take (k + 1)) = S ∧ canonL (l.take (k + 1)) = C ++ [ix] from by
              have e9 : seenSt S x = S := by unfold seenSt; rw [if_neg (by rw [← hixe]; exact hneg)]
              rw [e1, e2, e9, ← hixe]
              exact ⟨rfl, rfl⟩)
            have HXS := hid (show I64 ix from by unfold I64; omega)
            clear e1 e2 hil hng hixe hix hbq HST HB3 HB4 hx hneg hqs hq
            go_wp2_with (at_builtin; refine wpList_app1h (R := intO) elemInt (by decide) rfl _ _ rfl HB4'.out rfl _ 1 rfl (by simp) (one_int _) (y := ix) (own_int _ _ HXS.out) fresh_nil HSC.out.1 (by decide) HX2.out.size ?_; intro v8 w8 hB8 hE8 hA8)
            go_roundw
            case rel => exact ⟨k + 1, by omega, by go_num, by rw [HE.out.1]; exact HB3'.out.stayI fun b hb => hA8.keep b (HB3'.out.lt.2 b hb).1 fun e => hD b hb e, by rw [HE.out.2]; exact hB8, (fun b hb e2 => (hA8.own b e2).elim (fun e3 => hD b hb e3) fun e3 => by have := (HB3'.out.lt.2 b hb).1; omega), hE8 w (Nat.le_refl _) HX2.out⟩
            case measure => simp [intOf]; omega
    · have hkl : k = l.length := by omega
      subst hkl
      rw [List.take_length] at hB4
      obtain ⟨F, q1, q2, q3⟩ := hB4.done
      clear hB3 hB4
      go_wp2
      go_ret
      exact ⟨_, F, rfl, q1, ⟨q2, q3⟩, hx⟩
end Go.Proofs.YtidchfncfcckiaaGreat

namespace Go.Proofs.YtidchfncfcckiaaGreat
open Go.RowKit

set_option maxHeartbeats 4000000 in
set_option maxRecDepth 20000 in
theorem spec_IsPacking (v u : Value) (m : List (List Int)) (l : List Triangle) (w : World) (h : Sl (slR intR) w v m) (k0 : Sl triangleR w u l) (hm : WM m) (hp : PackB m l) (hl : l.length ≤ 100) :
    Calls Tryz.prog 132 #[v, u] w fun e w2 => e = .returned (.bool true) ∧ Ext w w2 := by
  have HA := hid (fun (W : World) (y : Ext w W) => spec_IsWeightMatrix v m W (h.mono y))
  rw [wmB_yes hm] at HA
  have HU := hid (fun (x y : Nat) (W : World) (e : Ext w W) => spec_l21Used u l x y W (k0.mono e) (fun t ht => (hp.tri t ht).2) (by omega))
  have HB := hid (fun (a b c : Nat) (W : World) (y : Ext w W) (hab : a < b) (hbc : b < c) (hc : c < m.length) => spec_IsBadTriangle v m a b c W (h.mono y) hm hab hbc hc)
  obtain ⟨A, cap, rfl, hm1⟩ := h.form
  obtain ⟨B, cap2, rfl, hm2⟩ := k0.form
  have h8 := hm.n8
  have HM := hid hm
  have HP := hid hp
  have HK0 := hid k0
  have HT := hid (fun (p q : Nat) (hp : p < m.length) (hq : q < m.length) => mat_cells h hm hp hq)
  have hd100 : decide (l.length ≤ 100) = true := by simp [hl]
  clear hm h hp k0
  go_enter Tryz.func132, Tryz.ntmps132
  go_wp2_with fail
  go_loopw [5] (fun i wr => ∃ k : Nat, k ≤ l.length ∧ i = .int .i64 k ∧ Ext w wr) (fun i _ => l.length - (intOf i).toNat)
  case atStart => exact ⟨0, Nat.zero_le _, rfl, Ext.refl _⟩
  case round =>
    obtain ⟨k, hk, rfl, hx⟩ := hrel
    by_cases hlt : k < l.length
    · obtain ⟨bT, oT, eT, i0, t0, t1, t2, t3⟩ := (HK0.out.mono hx).triangle hlt
      subst eT
      obtain ⟨⟨a, b, c, hab, hbc, hc, hbad, ea, eb, ec⟩, hw⟩ := HP.out.tri l[k] (List.getElem_mem hlt)
      rw [ea] at t0
      rw [eb] at t1
      rw [ec] at t2
      have y0 := fun (z : ExtOf wr) => z.2.cell t0
      have y1 := fun (z : ExtOf wr) => z.2.cell t1
      have y2 := fun (z : ExtOf wr) => z.2.cell t2
      have y3 := fun (z : ExtOf wr) => z.2.cell t3
      have HBT := hid (fun (z : ExtOf wr) => HB.out a b c z.1 (hx.trans z.2) hab hbc hc)
      rw [hbad] at HBT
      obtain ⟨wt, hwt⟩ : ∃ wt, wt = l[k].weight := ⟨_, rfl⟩
      rw [← hwt] at y3 hw
      have HIN := hid (fun (W : World) => spec_l1In wt 1 1000 W)
      have hin : inB wt 1 1000 = true := by unfold inB; rw [decide_eq_true_eq]; exact hw
      rw [hin] at HIN
      have HX := hid hx
      clear t0 t1 t2 t3 hab hbc hc hbad ea eb ec hwt hin i0 hx hw
      go_wp2_with fail
      refine wp_region_ext (by kernel_rfl) (by kernel_rfl) ?_
      repeat (go_big_quiet_step (((first | (go_at_call 133; with_reducible exact quiet_ext (HBT.out _)) | (go_at_call 92; with_reducible exact quiet_same (HIN.out _))))))
      refine wpQuiet_nil ?_
      rintro w5 ⟨⟨_, x5⟩, rfl⟩
      go_wp2
      go_roundw
      case rel => exact ⟨k + 1, by omega, by go_num, HX.out.trans x5⟩
      case measure => simp [intOf]; omega
    · have hkl : k = l.length := by omega
      subst hkl
      have HX := hid hx
      clear hx
      go_wp2_with fail
      go_loopw [6] (fun i wr => ∃ k : Nat, k ≤ m.length ∧ i = .int .i64 k ∧ Ext w wr) (fun i _ => m.length - (intOf i).toNat)
      case atStart => exact ⟨0, Nat.zero_le _, rfl, HX.out⟩
      case round =>
        clear HX
        obtain ⟨p, hp, rfl, hx⟩ := hrel
        by_cases hpm : p < m.length
        · have HX := hid hx
          clear hx
          go_wp2_with fail
          go_loopw [7] (fun i wr => ∃ q : Nat, p + 1 ≤ q ∧ q ≤ m.length ∧ i = .int .i64 q ∧ Ext w wr) (fun i _ => m.length - (intOf i).toNat)
          case atStart => exact ⟨p + 1, Nat.le_refl _, hpm, by go_num, HX.out⟩
          case round =>
            clear HX
            obtain ⟨q, hpq, hq, rfl, hx⟩ := hrel
            by_cases hqm : q < m.length
            · obtain ⟨bm, om, br, or, cr, eA, ht⟩ := HT.out p q hpm hqm
              subst eA
              have hfit := HP.out.fit p q (by omega) hqm
              have hbd := HM.out.bd p q hpm hqm
              obtain ⟨e, he⟩ : ∃ e, e = ent m p q := ⟨_, rfl⟩
              rw [← he] at ht hfit hbd
              have y0 := fun (z : ExtOf wr) => (ht z.1 (hx.trans z.2)).1
              have y1 := fun (z : ExtOf wr) => (ht z.1 (hx.trans z.2)).2
              have HUS := hid (fun (z : ExtOf wr) => HU.out p q z.1 (hx.trans z.2))
              have HWS := hid (fun (z : ExtOf wr) => HA.out z.1 (hx.trans z.2))
              have HSZ := hid (fun (W : World) => spec_l21Size e W hbd)
              obtain ⟨us, hus⟩ : ∃ us, us = usedT l p q := ⟨_, rfl⟩
              obtain ⟨sz, hsz⟩ : ∃ sz, sz = ab e := ⟨_, rfl⟩
              rw [← hus] at HUS hfit
              rw [← hsz] at HSZ hfit
              have hg : decide (sz < us) = false := by rw [decide_eq_false_iff_not]; omega
              have HX := hid hx
              clear ht he hus hsz hfit hbd hx
              go_wp2_with fail
              refine wp_region_ext (by kernel_rfl) (by kernel_rfl) ?_
              repeat (go_big_quiet_step (((first | (go_at_call 40; with_reducible exact quiet_ext (HWS.out _)) | (go_at_call 106; with_reducible exact quiet_ext (HUS.out _)) | (go_at_call 105; with_reducible exact quiet_same (HSZ.out _))))))
              refine wpQuiet_nil ?_
              rintro w5 ⟨⟨_, x5⟩, rfl⟩
              go_wp2
              go_roundw
              case rel => exact ⟨q + 1, by omega, by omega, by go_num, HX.out.trans x5⟩
              case measure => simp [intOf]; omega
            · have hqe : q = m.length := by omega
              subst hqe
              go_wp2
              go_roundw
              case rel => exact ⟨p + 1, by omega, by go_num, hx⟩
              case measure => simp [intOf]; omega
        · have hpe : p = m.length := by omega
          subst hpe
          have HA2 := hid (HA.out _ hx)
          go_wp2_with fail
          refine (HA2.out).mono ?_
          rintro e w5 ⟨rfl, x5⟩
          go_wp2
          go_ret
          exact ⟨ret_bool (by rw [decide_eq_true_eq]; omega), hx.trans x5⟩

set_option maxHeartbeats 1000000 in
set_option maxRecDepth 20000 in
theorem spec_PackingBound (v u : Value) (m : List (List Int)) (l : List Triangle) (w : World) (h : Sl (slR intR) w v m) (k0 : Sl triangleR w u l) (hm : WM m) (hp : PackB m l) (hl : l.length ≤ 100) :
    Calls Tryz.prog 103 #[v, u] w fun e w2 => e = .returned (.int .i64 (sumT l)) ∧ Ext w w2 := by
  have HA := hid (spec_IsPacking v u m l w h k0 hm hp hl)
  obtain ⟨A, cap, rfl, hm1⟩ := h.form
  obtain ⟨B, cap2, rfl, hm2⟩ := k0.form
  have HP := hid hp
  have HK0 := hid k0
  clear hm h hp k0
  go_enter Tryz.func103, Tryz.ntmps103
  go_wp2_with fail
  refine (HA.out).mono ?_
  rintro e w2 ⟨rfl, x2⟩
  go_wp2_with fail
  go_loopw [5, 6] (fun n i wr => ∃ k : Nat, k ≤ l.length ∧ i = .int .i64 k ∧ n = .int .i64 (sumT (l.take k)) ∧ Ext w wr) (fun _ i _ => l.length - (intOf i).toNat)
  case atStart => exact ⟨0, Nat.zero_le _, rfl, rfl, x2⟩
  case round =>
    obtain ⟨k, hk, rfl, rfl, hx⟩ := hrel
    by_cases hlt : k < l.length
    · obtain ⟨bT, oT, eT, i0, t0, t1, t2, t3⟩ := (HK0.out.mono hx).triangle hlt
      subst eT
      have HST := hid (show sumT (l.take (k + 1)) = sumT (l.take k) + l[k].weight from by rw [List.take_succ_eq_append_getElem hlt, sumT_snoc])
      have hw := (HP.out.tri l[k] (List.getElem_mem hlt)).2
      have hb := sumT_bd (l := l.take k) fun t ht => (HP.out.tri t (List.mem_of_mem_take ht)).2
      rw [List.length_take] at hb
      obtain ⟨n, hn⟩ : ∃ n, n = sumT (l.take k) := ⟨_, rfl⟩
      obtain ⟨wt, hwt⟩ : ∃ wt, wt = l[k].weight := ⟨_, rfl⟩
      rw [← hn] at HST hb ⊢
      rw [← hwt] at HST hw t3
      have hb2 : 0 ≤ n ∧ n ≤ 100000 := by omega
      clear hn hwt i0 hb
      go_wp2
      go_roundw
      case rel => exact ⟨k + 1, by omega, by go_num, by rw [HST.out], hx⟩
      case measure => simp [intOf]; omega
    · have hkl : k = l.length := by omega
      subst hkl
      have HE := hid (show sumT (l.take l.length) = sumT l from by rw [List.take_length])
      go_wp2
      go_ret
      exact ⟨ret_int (by rw [← HE.out]), hx⟩

set_option maxHeartbeats 400000 in
theorem spec_OptimalityGap (v u z : Value) (m : List (List Int)) (p : List Int) (l : List Triangle) (w : World) (h : Sl (slR intR) w v m) (k1 : Sl intR w u p) (k0 : Sl triangleR w z l) (hm : WM m) (hpp : partB p = true) (hpl : p.length = m.length) (hp : PackB m l) (hl : l.length ≤ 100) :
    Calls Tryz.prog 52 #[v, u, z] w fun e w2 => e = .returned (.int .i64 (costP m p - sumT l)) ∧ Ext w w2 := by
  have HA := hid (spec_PartitionCost v u m p w h k1 hm hpp hpl)
  have HB := hid (fun (W : World) (y : Ext w W) => spec_PackingBound v z m l W (h.mono y) (k0.mono y) hm hp hl)
  have hc := costP_le hm (p := p) (by omega)
  have hs := sumT_bd (l := l) fun t ht => (hp.tri t ht).2
  obtain ⟨A, cap, rfl, hm1⟩ := h.form
  obtain ⟨B, cap2, rfl, hm2⟩ := k1.form
  obtain ⟨C, cap3, rfl, hm3⟩ := k0.form
  obtain ⟨c, hcc⟩ : ∃ c, c = costP m p := ⟨_, rfl⟩
  obtain ⟨s, hss⟩ : ∃ s, s = sumT l := ⟨_, rfl⟩
  rw [← hcc] at HA hc ⊢
  rw [← hss] at HB hs ⊢
  have d1 : decide (c < 0) = false := by simp; omega
  have d2 : decide (s < 0) = false := by simp; omega
  have hs2 : s ≤ 100000 := by omega
  clear h k0 k1 hm hpp hpl hp hcc hss
  go_enter Tryz.func52, Tryz.ntmps52
  go_wp2_with fail
  refine (HA.out).mono ?_
  rintro e w2 ⟨rfl, x2⟩
  go_wp2_with fail
  refine (HB.out _ x2).mono ?_
  rintro e w3 ⟨rfl, x3⟩
  go_wp2
  go_ret
  exact ⟨rfl, x2.trans x3⟩
end Go.Proofs.YtidchfncfcckiaaGreat

namespace Go.Proofs.YtidchfncfcckiaaGreat
open Go.RowKit

section
variable (m : List (List Int)) (l : List Constraint) (hm : WM m) (wE w0 : World) (A B : Option Addr) (cap cap2 gs : Nat)
  (hE : Sl (slR intR) wE (.slice A m.length cap) m) (hC : Sl constraintR wE (.slice B l.length cap2) l) (h1 : gs < w0.heap.size) (h2 : wE.heap.size ≤ gs)
  (hl : ∀ c ∈ l, 0 ≤ c.a ∧ c.a < c.b)
include hm hE hC h1 h2 hl
set_option maxHeartbeats 8000000 in
set_option maxRecDepth 20000 in
theorem walk_c (r : Nat) : ∀ (q : List Int) (nx : Nat) (S : List Int × Int × Int) (w : World) (vq : Value) (Fq : List Nat), q.length + r = m.length → nx ≤ q.length → OwnSl intO w vq q Fq → (∀ b ∈ Fq, b ≠ gs) →
    WalkJ wE w0 gs (.slice A m.length cap) (.slice B l.length cap2) w S → S.2.2 + (leaves r q nx).length ≤ 1099511627776 →
    Calls Tryz.prog 129 #[.pointer (some ⟨gs, 0, none⟩), vq, .int .i64 ((nx : Int) - 1), .int .i64 (costP m q)] w fun e w2 =>
      e = .returned (.tuple #[]) ∧ WalkJ wE w0 gs (.slice A m.length cap) (.slice B l.length cap2) w2 (walkF m l r q nx (costP m q) S) ∧ KeepB w w2 [gs] := by
  have h8 := hm.n8
  induction r with
  | zero =>
    intro q nx S w vq Fq hn hnx hO hF hJ hS
    obtain ⟨Aq, cq, rfl, _⟩ := hO.form
    obtain ⟨c0, c1, c3, c4, cf⟩ := hJ.cells
    have hbd := hJ.bd
    have hcb := costP_le hm (p := q) (by omega)
    have HW := hid (show walkF m l 0 q nx (costP m q) S = if 0 ≤ S.2.1 ∧ S.2.1 < costP m q then S else if S.2.1 < 0 ∨ costP m q < S.2.1 then (q, costP m q, 1) else (S.1, S.2.1, S.2.2 + 1) from rfl)
    obtain ⟨c, hc⟩ : ∃ c, c = costP m q := ⟨_, rfl⟩
    rw [← hc] at hcb HW ⊢
    obtain ⟨s1, sc, sn⟩ := S
    dsimp only at c3 c4 hbd HW
    have HJ := hid hJ
    have HO := hid hO
    have HB := hid (And.intro h1 h2)
    have hql : q.length = m.length := by omega
    have hsn : sn ≤ 1099511627776 := by dsimp only at hS; omega
    have HSZ := hid (show q.length ≤ 1099511627776 by omega)
    have hf4 := cf 4
    have hf2 := cf 2
    have HS0 := hid hJ.keep.1
    clear hm hE hC h1 h2 hl h8 hJ hO hc hS cf hF hnx hn
    by_cases hp : 0 ≤ sc ∧ sc < c
    · rw [if_pos hp] at HW
      have d1 : decide (0 ≤ sc) = true := by simp [hp.1]
      have d2 : decide (sc < c) = true := by simp [hp.2]
      clear hp hql
      go_enter Tryz.func129, Tryz.ntmps129
      go_wp2
      (first | (simp only [Exit.inBlock, Exit.then]; refine bodyPost_ret (results_none rfl _ _ _) rfl ?_) | refine bodyPost_ret (results_none rfl _ _ _) rfl ?_ | go_end0)
      exact ⟨rfl, by rw [HW.out]; exact HJ.out, KeepB.refl _ _⟩
    · rw [if_neg hp] at HW
      have hge : decide (0 ≤ sc) = false ∨ (decide (0 ≤ sc) = true ∧ decide (sc < c) = false) := by
        by_cases h : 0 ≤ sc
        · exact .inr ⟨by simp [h], by simp; omega⟩
        · exact .inl (by simp [h])
      have hql9 : ((q.length : Int) == (m.length : Int)) = true := by rw [beq_iff_eq]; omega
      by_cases hb : sc < 0 ∨ c < sc
      · rw [if_pos hb] at HW
        have hcase : decide (sc < 0) = true ∨ (decide (sc < 0) = false ∧ decide (c < sc) = true) := by
          by_cases h : sc < 0
          · exact .inl (by simp [h])
          · exact .inr ⟨by simp [h], by simp; omega⟩
        have HCB := hid (show -1 ≤ c ∧ c ≤ 64000 by omega)
        clear hp hb hql hbd hcb
        rcases hge with d1 | ⟨d1, d2⟩ <;> rcases hcase with d3 | ⟨d3, d4⟩
        · go_enter Tryz.func129, Tryz.ntmps129
          go_wp2_with (at_builtin; refine wpList_appn elemInt rfl _ _ rfl (Bld.lit (R := intO) w (Nat.le_refl _) 3) rfl rfl (HO.out.ext ((Ext.refl w).alloc _)).sl (by simp; exact HSZ.out) (by simp) ?_; intro v9 w9 hB9 hE9; rw [List.nil_append] at hB9; obtain ⟨F9, o9, n9, f9⟩ := hB9.done; obtain ⟨A9, c9, e9, _⟩ := o9.form; subst e9; have x9 := hE9 w (Nat.le_refl _) ((Ext.refl w).alloc _); have hJ9 := HJ.out.mono x9; obtain ⟨⟨u9, t0⟩, t1, t2, t3, t4, t5⟩ := hJ9.better HB.out.1 HB.out.2 o9 ⟨n9, fun b hb => Nat.le_trans HS0.out (f9 b hb)⟩ HCB.out; have t6 := hJ9.cells.2.2.2.2 2; have hcc := t5.cells; dsimp only at t1 t3 hcc; have t7 := hcc.2.2.2.1; have t8 := hcc.2.2.2.2 4; have HK := hid (t5.count HB.out.1 HB.out.2 (x := 1) (by decide)); have HX9 := hid x9; clear hB9 o9 hJ9 t5 hcc hE9 x9 f9 n9)
          (first | (simp only [Exit.inBlock, Exit.then]; refine bodyPost_ret (results_none rfl _ _ _) rfl ?_) | refine bodyPost_ret (results_none rfl _ _ _) rfl ?_ | go_end0)
          exact ⟨rfl, by rw [HW.out]; exact HK.out, ((((KeepB.of_ext HX9.out).set (by simp) _).set (by simp) _).set (by simp) _).set (by simp) _⟩
        · go_enter Tryz.func129, Tryz.ntmps129
          go_wp2_with (at_builtin; refine wpList_appn elemInt rfl _ _ rfl (Bld.lit (R := intO) w (Nat.le_refl _) 3) rfl rfl (HO.out.ext ((Ext.refl w).alloc _)).sl (by simp; exact HSZ.out) (by simp) ?_; intro v9 w9 hB9 hE9; rw [List.nil_append] at hB9; obtain ⟨F9, o9, n9, f9⟩ := hB9.done; obtain ⟨A9, c9, e9, _⟩ := o9.form; subst e9; have x9 := hE9 w (Nat.le_refl _) ((Ext.refl w).alloc _); have hJ9 := HJ.out.mono x9; obtain ⟨⟨u9, t0⟩, t1, t2, t3, t4, t5⟩ := hJ9.better HB.out.1 HB.out.2 o9 ⟨n9, fun b hb => Nat.le_trans HS0.out (f9 b hb)⟩ HCB.out; have t6 := hJ9.cells.2.2.2.2 2; have hcc := t5.cells; dsimp only at t1 t3 hcc; have t7 := hcc.2.2.2.1; have t8 := hcc.2.2.2.2 4; have HK := hid (t5.count HB.out.1 HB.out.2 (x := 1) (by decide)); have HX9 := hid x9; clear hB9 o9 hJ9 t5 hcc hE9 x9 f9 n9)
          (first | (simp only [Exit.inBlock, Exit.then]; refine bodyPost_ret (results_none rfl _ _ _) rfl ?_) | refine bodyPost_ret (results_none rfl _ _ _) rfl ?_ | go_end0)
          exact ⟨rfl, by rw [HW.out]; exact HK.out, ((((KeepB.of_ext HX9.out).set (by simp) _).set (by simp) _).set (by simp) _).set (by simp) _⟩
        · go_enter Tryz.func129, Tryz.ntmps129
          go_wp2_with (at_builtin; refine wpList_appn elemInt rfl _ _ rfl (Bld.lit (R := intO) w (Nat.le_refl _) 3) rfl rfl (HO.out.ext ((Ext.refl w).alloc _)).sl (by simp; exact HSZ.out) (by simp) ?_; intro v9 w9 hB9 hE9; rw [List.nil_append] at hB9; obtain ⟨F9, o9, n9, f9⟩ := hB9.done; obtain ⟨A9, c9, e9, _⟩ := o9.form; subst e9; have x9 := hE9 w (Nat.le_refl _) ((Ext.refl w).alloc _); have hJ9 := HJ.out.mono x9; obtain ⟨⟨u9, t0⟩, t1, t2, t3, t4, t5⟩ := hJ9.better HB.out.1 HB.out.2 o9 ⟨n9, fun b hb => Nat.le_trans HS0.out (f9 b hb)⟩ HCB.out; have t6 := hJ9.cells.2.2.2.2 2; have hcc := t5.cells; dsimp only at t1 t3 hcc; have t7 := hcc.2.2.2.1; have t8 := hcc.2.2.2.2 4; have HK := hid (t5.count HB.out.1 HB.out.2 (x := 1) (by decide)); have HX9 := hid x9; clear hB9 o9 hJ9 t5 hcc hE9 x9 f9 n9)
          (first | (simp only [Exit.inBlock, Exit.then]; refine bodyPost_ret (results_none rfl _ _ _) rfl ?_) | refine bodyPost_ret (results_none rfl _ _ _) rfl ?_ | go_end0)
          exact ⟨rfl, by rw [HW.out]; exact HK.out, ((((KeepB.of_ext HX9.out).set (by simp) _).set (by simp) _).set (by simp) _).set (by simp) _⟩
        · go_enter Tryz.func129, Tryz.ntmps129
          go_wp2_with (at_builtin; refine wpList_appn elemInt rfl _ _ rfl (Bld.lit (R := intO) w (Nat.le_refl _) 3) rfl rfl (HO.out.ext ((Ext.refl w).alloc _)).sl (by simp; exact HSZ.out) (by simp) ?_; intro v9 w9 hB9 hE9; rw [List.nil_append] at hB9; obtain ⟨F9, o9, n9, f9⟩ := hB9.done; obtain ⟨A9, c9, e9, _⟩ := o9.form; subst e9; have x9 := hE9 w (Nat.le_refl _) ((Ext.refl w).alloc _); have hJ9 := HJ.out.mono x9; obtain ⟨⟨u9, t0⟩, t1, t2, t3, t4, t5⟩ := hJ9.better HB.out.1 HB.out.2 o9 ⟨n9, fun b hb => Nat.le_trans HS0.out (f9 b hb)⟩ HCB.out; have t6 := hJ9.cells.2.2.2.2 2; have hcc := t5.cells; dsimp only at t1 t3 hcc; have t7 := hcc.2.2.2.1; have t8 := hcc.2.2.2.2 4; have HK := hid (t5.count HB.out.1 HB.out.2 (x := 1) (by decide)); have HX9 := hid x9; clear hB9 o9 hJ9 t5 hcc hE9 x9 f9 n9)
          (first | (simp only [Exit.inBlock, Exit.then]; refine bodyPost_ret (results_none rfl _ _ _) rfl ?_) | refine bodyPost_ret (results_none rfl _ _ _) rfl ?_ | go_end0)
          exact ⟨rfl, by rw [HW.out]; exact HK.out, ((((KeepB.of_ext HX9.out).set (by simp) _).set (by simp) _).set (by simp) _).set (by simp) _⟩
      · rw [if_neg hb] at HW
        have d3 : decide (sc < 0) = false := by simp; omega
        have d4 : decide (c < sc) = false := by simp; omega
        have HK := hid (HJ.out.count HB.out.1 HB.out.2 (x := sn + 1) (by have := hbd.2.2; omega))
        have hsn0 := hbd.2.2
        clear hp hb hql
        rcases hge with d1 | ⟨d1, d2⟩
        · exfalso
          simp at d1 d3
          omega
        · go_enter Tryz.func129, Tryz.ntmps129
          go_wp2
          (first | (simp only [Exit.inBlock, Exit.then]; refine bodyPost_ret (results_none rfl _ _ _) rfl ?_) | refine bodyPost_ret (results_none rfl _ _ _) rfl ?_ | go_end0)
          exact ⟨rfl, by rw [HW.out]; exact HK.out, (KeepB.refl _ _).set (by simp) _⟩
  | succ r ih =>
    intro q nx S w vq Fq hn hnx hO hF hJ hS
    have IH := hid ih
    clear ih
    obtain ⟨Aq, cq, rfl, _⟩ := hO.form
    obtain ⟨c0, c1, c3, c4, cf⟩ := hJ.cells
    have hbd := hJ.bd
    have hcb := costP_le hm (p := q) (by omega)
    have HM := hid hm
    have HW := hid (show walkF m l (r + 1) q nx (costP m q) S = if 0 ≤ S.2.1 ∧ S.2.1 < costP m q then S else (List.range (nx + 1)).foldl (walkSt m l r q nx) S from rfl)
    have HJ := hid hJ
    have HO := hid hO
    have HF := hid hF
    have HB := hid (And.intro h1 h2)
    have hql : q.length < m.length := by omega
    have HN := hid hn
    have HC := hid (fun (W : World) (y : Ext wE W) => hC.mono y)
    have HT := hid (fun (i j : Nat) (hi : i < m.length) (hj : j < m.length) => mat_cells hE hm hi hj)
    have HL := hid hl
    have HCN := hid (fun (k : Nat) (hk : k ≤ nx) => walk_cnt m l r q nx S hbd.2.2 k hk hS)
    have HSN := hid (fun (x : Int) => costP_snoc m q x)
    obtain ⟨c, hc⟩ : ∃ c, c = costP m q := ⟨_, rfl⟩
    rw [← hc] at hcb HW HSN ⊢
    clear hm hE hC h1 h2 hl hJ hO hF hc hS cf hn
    by_cases hp : 0 ≤ S.2.1 ∧ S.2.1 < c
    · rw [if_pos hp] at HW
      have d1 : decide (0 ≤ S.2.1) = true := by simp [hp.1]
      have d2 : decide (S.2.1 < c) = true := by simp [hp.2]
      clear hp
      go_enter Tryz.func129, Tryz.ntmps129
      go_wp2
      (first | (simp only [Exit.inBlock, Exit.then]; refine bodyPost_ret (results_none rfl _ _ _) rfl ?_) | refine bodyPost_ret (results_none rfl _ _ _) rfl ?_ | go_end0)
      exact ⟨rfl, by rw [HW.out]; exact HJ.out, KeepB.refl _ _⟩
    · rw [if_neg hp] at HW
      have hge : decide (0 ≤ S.2.1) = false ∨ (decide (0 ≤ S.2.1) = true ∧ decide (S.2.1 < c) = false) := by
        by_cases h : 0 ≤ S.2.1
        · exact .inr ⟨by simp [h], by simp; omega⟩
        · exact .inl (by simp [h])
      have hql9 : ((q.length : Int) == (m.length : Int)) = false := by rw [beq_eq_false_iff_ne]; omega
      have hnx8 : nx ≤ 8 := by omega
      have hq8 : q.length ≤ 8 := by omega
      clear hp hbd
      rcases hge with d1 | ⟨d1, d2⟩
      · go_enter Tryz.func129, Tryz.ntmps129
        go_wp2_with fail
        clear c0 c1 c3 c4 d1
        go_loopw [9] (fun t wr => ∃ x : Nat, x ≤ nx + 1 ∧ t = .int .i64 x ∧ WalkJ wE w0 gs (.slice A m.length cap) (.slice B l.length cap2) wr ((List.range x).foldl (walkSt m l r q nx) S) ∧ KeepB w wr [gs]) (fun t _ => nx + 1 - (intOf t).toNat)
        case atStart => exact ⟨0, Nat.zero_le _, rfl, HJ.out, KeepB.refl _ _⟩
        case round =>
          obtain ⟨x, hx, rfl, hJ, hk⟩ := hrel
          by_cases hxl : x ≤ nx
          · have HS9 := hid (HCN.out x hxl)
            have HST := hid (show (List.range (x + 1)).foldl (walkSt m l r q nx) S = walkSt m l r q nx ((List.range x).foldl (walkSt m l r q nx) S) x from by rw [List.range_succ, List.foldl_append]; rfl)
            obtain ⟨T, hT⟩ : ∃ T, T = (List.range x).foldl (walkSt m l r q nx) S := ⟨_, rfl⟩
            rw [← hT] at HS9 HST hJ
            clear hT
            have HQ := hid (HO.out.keep (w2 := wr) fun b hb => hk.2 b (HO.out.lt b hb) (by simp; exact HF.out b hb))
            have HX := hid hJ
            have HK := hid hk
            have HG0 := hid (show gs < wr.heap.size from Nat.lt_of_lt_of_le HB.out.1 hJ.keep.1)
            have HSX := hid (show I64 (x : Int) from by unfold I64; omega)
            have HSQ := hid (show q.length + 1 ≤ 1099511627776 by omega)
            obtain ⟨ok, hok⟩ : ∃ ok, ok = lastOk (q ++ [(x : Int)]) l := ⟨_, rfl⟩
            have HOKE := hid hok
            clear hJ hk hok
            go_wp2_with (first | (at_builtin; refine wpList_appn elemInt rfl _ _ rfl (Bld.lit (R := intO) wr (Nat.le_refl _) 3) rfl rfl (HQ.out.ext ((Ext.refl wr).alloc _)).sl (by simp; exact Nat.le_of_succ_le HSQ.out) (by simp) ?_; intro v7 w7 hB7 hE7; rw [List.nil_append] at hB7; have x7 := hE7 wr (Nat.le_refl _) ((Ext.refl wr).alloc _)) | (at_builtin; refine wpList_app1 (R := intO) elemInt (by decide) rfl _ _ rfl hB7 rfl _ 1 rfl (by simp) (one_int _) (own_int _ _ HSX.out) fresh_nil HSQ.out (by decide) x7.size ?_; intro v9 w9 hB9 hE9))
            have x9 := hE9 wr (Nat.le_refl _) x7
            obtain ⟨F9, o9, n9, f9⟩ := hB9.done
            have HF9 := hid (show ∀ b ∈ F9, b ≠ gs from fun b hb e => by have := f9 b hb; have := HG0.out; omega)
            have J9 := HX.out.mono x9
            have HBD := hid (spec_l20Bad gs B cap2 _ (q ++ [(x : Int)]) l w9 o9.sl (HC.out w9 J9.ext) J9.cells.2.1 (by simp) HL.out)
            rw [← HOKE.out] at HBD
            have HO9 := hid o9
            have HJ9 := hid J9
            have HX9 := hid x9
            obtain ⟨A9, c9, e9, _⟩ := o9.form
            subst e9
            clear hB7 hE7 x7 hB9 hE9 o9 n9 f9 J9 x9
            refine (HBD.out).mono ?_
            rintro e w10 ⟨rfl, x10⟩
            have HO10 := hid (HO9.out.ext x10)
            have HJ10 := hid (HJ9.out.mono x10)
            have HQ10 := hid ((HQ.out.ext HX9.out).ext x10)
            have HK10 := hid ((HK.out.ext HX9.out).ext x10)
            clear x10 HO9 HJ9 HQ HK HX HBD
            cases ok with
            | false =>
              have HSS := hid (show walkSt m l r q nx T x = T from by unfold walkSt; rw [← HOKE.out]; rfl)
              go_wp2
              go_roundw
              case rel => exact ⟨x + 1, by omega, by go_num, by rw [HST.out, HSS.out]; exact HJ10.out, HK10.out⟩
              case measure => simp [intOf]; omega
            | true =>
              have HSS := hid (show walkSt m l r q nx T x = walkF m l r (q ++ [(x : Int)]) (max nx (x + 1)) (costP m (q ++ [(x : Int)])) T from by unfold walkSt; rw [← HOKE.out]; rfl)
              have cm0 := HJ10.out.cells.1
              go_wp2_with fail
              go_loop [11, 12] (fun t i => ∃ i' : Nat, i' ≤ q.length ∧ i = .int .i64 i' ∧ t = .int .i64 (c + sumN (addF m q (x : Int)) i')) (fun _ i => q.length - (intOf i).toNat)
              case atStart => exact ⟨0, Nat.zero_le _, rfl, by simp [sumN]⟩
              case round =>
                obtain ⟨i, hi, rfl, rfl⟩ := hrel
                have hsb := addF_bd HM.out hql (x : Int) i hi
                have HS1 := hid (show sumN (addF m q (x : Int)) (i + 1) = sumN (addF m q (x : Int)) i + addF m q (x : Int) i from rfl)
                by_cases hiq : i < q.length
                · obtain ⟨s, hs⟩ : ∃ s, s = sumN (addF m q (x : Int)) i := ⟨_, rfl⟩
                  rw [← hs] at hsb HS1 ⊢
                  obtain ⟨bq, oq, rfl, iq, cqi⟩ := HQ10.out.sl.int hiq
                  obtain ⟨bm, om, br, or, cr, eA, ht⟩ := HT.out i q.length (by omega) hql
                  subst eA
                  obtain ⟨k1, k2⟩ := ht w10 HJ10.out.ext
                  have hbe := HM.out.bd i q.length (by omega) hql
                  have HP := hid (show addF m q (x : Int) i = if q[i] = (x : Int) then max 0 (-(ent m i q.length)) else max 0 (ent m i q.length) from by
                    unfold addF
                    rw [getD_getElem hiq, HM.out.sym q.length i hql (by omega)]
                    by_cases h9 : q[i] = (x : Int)
                    · rw [if_pos h9, if_pos h9.symm]
                    · rw [if_neg h9, if_neg fun e => h9 e.symm])
                  obtain ⟨e, he⟩ : ∃ e, e = ent m i q.length := ⟨_, rfl⟩
                  rw [← he] at k2 hbe HP
                  obtain ⟨a, ha⟩ : ∃ a, a = q[i] := ⟨_, rfl⟩
                  rw [← ha] at cqi HP
                  clear ht he ha hs iq
                  have hqm9 : (q.length : Int) < (m.length : Int) := by omega
                  have him9 : (i : Int) < (m.length : Int) := by omega
                  by_cases hax : a = (x : Int)
                  · have hq1 : (a == (x : Int)) = true := by simp [hax]
                    have hq2 : (a != (x : Int)) = false := by simp [hax]
                    rw [if_pos hax] at HP
                    clear hax
                    rcases (by omega : e < 0 ∨ e = 0 ∨ 0 < e) with he0 | rfl | he0
                    · have g1 : decide (0 < e) = false := by rw [decide_eq_false_iff_not]; omega
                      have g2 : decide (e < 0) = true := by rw [decide_eq_true_eq]; omega
                      go_wp2
                      go_round
                      case rel => exact ⟨i + 1, by omega, by go_num, by rw [HS1.out, HP.out]; congr 1; omega⟩
                      case measure => simp [intOf]; omega
                    · go_wp2
                      go_round
                      case rel => exact ⟨i + 1, by omega, by go_num, by rw [HS1.out, HP.out]; congr 1; omega⟩
                      case measure => simp [intOf]; omega
                    · have g1 : decide (0 < e) = true := by rw [decide_eq_true_eq]; omega
                      have g2 : decide (e < 0) = false := by rw [decide_eq_false_iff_not]; omega
                      go_wp2
                      go_round
                      case rel => exact ⟨i + 1, by omega, by go_num, by rw [HS1.out, HP.out]; congr 1; omega⟩
                      case measure => simp [intOf]; omega
                  · have hq1 : (a == (x : Int)) = false := by simp [hax]
                    have hq2 : (a != (x : Int)) = true := by simp [hax]
                    rw [if_neg hax] at HP
                    clear hax
                    rcases (by omega : e < 0 ∨ e = 0 ∨ 0 < e) with he0 | rfl | he0
                    · have g1 : decide (0 < e) = false := by rw [decide_eq_false_iff_not]; omega
                      have g2 : decide (e < 0) = true := by rw [decide_eq_true_eq]; omega
                      go_wp2
                      go_round
                      case rel => exact ⟨i + 1, by omega, by go_num, by rw [HS1.out, HP.out]; congr 1; omega⟩
                      case measure => simp [intOf]; omega
                    · go_wp2
                      go_round
                      case rel => exact ⟨i + 1, by omega, by go_num, by rw [HS1.out, HP.out]; congr 1; omega⟩
                      case measure => simp [intOf]; omega
                    · have g1 : decide (0 < e) = true := by rw [decide_eq_true_eq]; omega
                      have g2 : decide (e < 0) = false := by rw [decide_eq_false_iff_not]; omega
                      go_wp2
                      go_round
                      case rel => exact ⟨i + 1, by omega, by go_num, by rw [HS1.out, HP.out]; congr 1; omega⟩
                      case measure => simp [intOf]; omega
                · have hiq2 : i = q.length := by omega
                  subst hiq2
                  clear hsb HS1 hiq hi
                  rcases (by omega : x < nx ∨ x = nx) with hxn | hxn
                  · have hmx : max nx (x + 1) = nx := by omega
                    have HCS := hid (show c + sumN (addF m q (x : Int)) q.length = costP m (q ++ [(x : Int)]) from (HSN.out x).symm)
                    have HCA := hid (IH.out (q ++ [(x : Int)]) nx T w10 _ F9 (by rw [List.length_append, List.length_singleton]; have := HN.out; omega) (by rw [List.length_append, List.length_singleton]; omega) HO10.out HF9.out HJ10.out (by have := HS9.out; rw [hmx] at this; exact this))
                    rw [List.length_append, List.length_singleton] at HCA
                    rw [HCS.out]
                    rw [hmx] at HSS
                    have hxn2 : (x : Int) ≤ (nx : Int) - 1 := by omega
                    clear hmx hxn
                    go_wp2_with fail
                    refine (HCA.out).mono ?_
                    rintro e w11 ⟨rfl, J11, K11⟩
                    go_wp2
                    go_roundw
                    case rel => exact ⟨x + 1, by omega, by go_num, by rw [HST.out, HSS.out]; exact J11, HK10.out.trans K11⟩
                    case measure => simp [intOf]; omega
                  · have hmx : max nx (x + 1) = nx + 1 := by omega
                    have HCS := hid (show c + sumN (addF m q (x : Int)) q.length = costP m (q ++ [(x : Int)]) from (HSN.out x).symm)
                    have HCA := hid (IH.out (q ++ [(x : Int)]) (nx + 1) T w10 _ F9 (by rw [List.length_append, List.length_singleton]; have := HN.out; omega) (by rw [List.length_append, List.length_singleton]; omega) HO10.out HF9.out HJ10.out (by have := HS9.out; rw [hmx] at this; exact this))
                    rw [List.length_append, List.length_singleton] at HCA
                    rw [HCS.out]
                    rw [hmx] at HSS
                    rw [show (((nx + 1 : Nat) : Int)) - 1 = (x : Int) by omega] at HCA
                    have hxn2 : (nx : Int) - 1 < (x : Int) := by omega
                    clear hmx hxn
                    go_wp2_with fail
                    refine (HCA.out).mono ?_
                    rintro e w11 ⟨rfl, J11, K11⟩
                    go_wp2
                    go_roundw
                    case rel => exact ⟨x + 1, by omega, by go_num, by rw [HST.out, HSS.out]; exact J11, HK10.out.trans K11⟩
                    case measure => simp [intOf]; omega
          · have hxe : x = nx + 1 := by omega
            subst hxe
            have HJ2 := hid hJ
            clear hJ
            go_wp2
            (first | (simp only [Exit.inBlock, Exit.then]; refine bodyPost_ret (results_none rfl _ _ _) rfl ?_) | refine bodyPost_ret (results_none rfl _ _ _) rfl ?_ | go_end0)
            exact ⟨rfl, by rw [HW.out]; exact HJ2.out, hk⟩
      · go_enter Tryz.func129, Tryz.ntmps129
        go_wp2_with fail
        clear c0 c1 c3 c4 d1 d2
        go_loopw [9] (fun t wr => ∃ x : Nat, x ≤ nx + 1 ∧ t = .int .i64 x ∧ WalkJ wE w0 gs (.slice A m.length cap) (.slice B l.length cap2) wr ((List.range x).foldl (walkSt m l r q nx) S) ∧ KeepB w wr [gs]) (fun t _ => nx + 1 - (intOf t).toNat)
        case atStart => exact ⟨0, Nat.zero_le _, rfl, HJ.out, KeepB.refl _ _⟩
        case round =>
          obtain ⟨x, hx, rfl, hJ, hk⟩ := hrel
          by_cases hxl : x ≤ nx
          · have HS9 := hid (HCN.out x hxl)
            have HST := hid (show (List.range (x + 1)).foldl (walkSt m l r q nx) S = walkSt m l r q nx ((List.range x).foldl (walkSt m l r q nx) S) x from by rw [List.range_succ, List.foldl_append]; rfl)
            obtain ⟨T, hT⟩ : ∃ T, T = (List.range x).foldl (walkSt m l r q nx) S := ⟨_, rfl⟩
            rw [← hT] at HS9 HST hJ
            clear hT
            have HQ := hid (HO.out.keep (w2 := wr) fun b hb => hk.2 b (HO.out.lt b hb) (by simp; exact HF.out b hb))
            have HX := hid hJ
            have HK := hid hk
            have HG0 := hid (show gs < wr.heap.size from Nat.lt_of_lt_of_le HB.out.1 hJ.keep.1)
            have HSX := hid (show I64 (x : Int) from by unfold I64; omega)
            have HSQ := hid (show q.length + 1 ≤ 1099511627776 by omega)
            obtain ⟨ok, hok⟩ : ∃ ok, ok = lastOk (q ++ [(x : Int)]) l := ⟨_, rfl⟩
            have HOKE := hid hok
            clear hJ hk hok
            go_wp2_with (first | (at_builtin; refine wpList_appn elemInt rfl _ _ rfl (Bld.lit (R := intO) wr (Nat.le_refl _) 3) rfl rfl (HQ.out.ext ((Ext.refl wr).alloc _)).sl (by simp; exact Nat.le_of_succ_le HSQ.out) (by simp) ?_; intro v7 w7 hB7 hE7; rw [List.nil_append] at hB7; have x7 := hE7 wr (Nat.le_refl _) ((Ext.refl wr).alloc _)) | (at_builtin; refine wpList_app1 (R := intO) elemInt (by decide) rfl _ _ rfl hB7 rfl _ 1 rfl (by simp) (one_int _) (own_int _ _ HSX.out) fresh_nil HSQ.out (by decide) x7.size ?_; intro v9 w9 hB9 hE9))
            have x9 := hE9 wr (Nat.le_refl _) x7
            obtain ⟨F9, o9, n9, f9⟩ := hB9.done
            have HF9 := hid (show ∀ b ∈ F9, b ≠ gs from fun b hb e => by have := f9 b hb; have := HG0.out; omega)
            have J9 := HX.out.mono x9
            have HBD := hid (spec_l20Bad gs B cap2 _ (q ++ [(x : Int)]) l w9 o9.sl (HC.out w9 J9.ext) J9.cells.2.1 (by simp) HL.out)
            rw [← HOKE.out] at HBD
            have HO9 := hid o9
            have HJ9 := hid J9
            have HX9 := hid x9
            obtain ⟨A9, c9, e9, _⟩ := o9.form
            subst e9
            clear hB7 hE7 x7 hB9 hE9 o9 n9 f9 J9 x9
            refine (HBD.out).mono ?_
            rintro e w10 ⟨rfl, x10⟩
            have HO10 := hid (HO9.out.ext x10)
            have HJ10 := hid (HJ9.out.mono x10)
            have HQ10 := hid ((HQ.out.ext HX9.out).ext x10)
            have HK10 := hid ((HK.out.ext HX9.out).ext x10)
            clear x10 HO9 HJ9 HQ HK HX HBD
            cases ok with
            | false =>
              have HSS := hid (show walkSt m l r q nx T x = T from by unfold walkSt; rw [← HOKE.out]; rfl)
              go_wp2
              go_roundw
              case rel => exact ⟨x + 1, by omega, by go_num, by rw [HST.out, HSS.out]; exact HJ10.out, HK10.out⟩
              case measure => simp [intOf]; omega
            | true =>
              have HSS := hid (show walkSt m l r q nx T x = walkF m l r (q ++ [(x : Int)]) (max nx (x + 1)) (costP m (q ++ [(x : Int)])) T from by unfold walkSt; rw [← HOKE.out]; rfl)
              have cm0 := HJ10.out.cells.1
              go_wp2_with fail
              go_loop [11, 12] (fun t i => ∃ i' : Nat, i' ≤ q.length ∧ i = .int .i64 i' ∧ t = .int .i64 (c + sumN (addF m q (x : Int)) i')) (fun _ i => q.length - (intOf i).toNat)
              case atStart => exact ⟨0, Nat.zero_le _, rfl, by simp [sumN]⟩
              case round =>
                obtain ⟨i, hi, rfl, rfl⟩ := hrel
                have hsb := addF_bd HM.out hql (x : Int) i hi
                have HS1 := hid (show sumN (addF m q (x : Int)) (i + 1) = sumN (addF m q (x : Int)) i + addF m q (x : Int) i from rfl)
                by_cases hiq : i < q.length
                · obtain ⟨s, hs⟩ : ∃ s, s = sumN (addF m q (x : Int)) i := ⟨_, rfl⟩
                  rw [← hs] at hsb HS1 ⊢
                  obtain ⟨bq, oq, rfl, iq, cqi⟩ := HQ10.out.sl.int hiq
                  obtain ⟨bm, om, br, or, cr, eA, ht⟩ := HT.out i q.length (by omega) hql
                  subst eA
                  obtain ⟨k1, k2⟩ := ht w10 HJ10.out.ext
                  have hbe := HM.out.bd i q.length (by omega) hql
                  have HP := hid (show addF m q (x : Int) i = if q[i] = (x : Int) then max 0 (-(ent m i q.length)) else max 0 (ent m i q.length) from by
                    unfold addF
                    rw [getD_getElem hiq, HM.out.sym q.length i hql (by omega)]
                    by_cases h9 : q[i] = (x : Int)
                    · rw [if_pos h9, if_pos h9.symm]
                    · rw [if_neg h9, if_neg fun e => h9 e.symm])
                  obtain ⟨e, he⟩ : ∃ e, e = ent m i q.length := ⟨_, rfl⟩
                  rw [← he] at k2 hbe HP
                  obtain ⟨a, ha⟩ : ∃ a, a = q[i] := ⟨_, rfl⟩
                  rw [← ha] at cqi HP
                  clear ht he ha hs iq
                  have hqm9 : (q.length : Int) < (m.length : Int) := by omega
                  have him9 : (i : Int) < (m.length : Int) := by omega
                  by_cases hax : a = (x : Int)
                  · have hq1 : (a == (x : Int)) = true := by simp [hax]
                    have hq2 : (a != (x : Int)) = false := by simp [hax]
                    rw [if_pos hax] at HP
                    clear hax
                    rcases (by omega : e < 0 ∨ e = 0 ∨ 0 < e) with he0 | rfl | he0
                    · have g1 : decide (0 < e) = false := by rw [decide_eq_false_iff_not]; omega
                      have g2 : decide (e < 0) = true := by rw [decide_eq_true_eq]; omega
                      go_wp2
                      go_round
                      case rel => exact ⟨i + 1, by omega, by go_num, by rw [HS1.out, HP.out]; congr 1; omega⟩
                      case measure => simp [intOf]; omega
                    · go_wp2
                      go_round
                      case rel => exact ⟨i + 1, by omega, by go_num, by rw [HS1.out, HP.out]; congr 1; omega⟩
                      case measure => simp [intOf]; omega
                    · have g1 : decide (0 < e) = true := by rw [decide_eq_true_eq]; omega
                      have g2 : decide (e < 0) = false := by rw [decide_eq_false_iff_not]; omega
                      go_wp2
                      go_round
                      case rel => exact ⟨i + 1, by omega, by go_num, by rw [HS1.out, HP.out]; congr 1; omega⟩
                      case measure => simp [intOf]; omega
                  · have hq1 : (a == (x : Int)) = false := by simp [hax]
                    have hq2 : (a != (x : Int)) = true := by simp [hax]
                    rw [if_neg hax] at HP
                    clear hax
                    rcases (by omega : e < 0 ∨ e = 0 ∨ 0 < e) with he0 | rfl | he0
                    · have g1 : decide (0 < e) = false := by rw [decide_eq_false_iff_not]; omega
                      have g2 : decide (e < 0) = true := by rw [decide_eq_true_eq]; omega
                      go_wp2
                      go_round
                      case rel => exact ⟨i + 1, by omega, by go_num, by rw [HS1.out, HP.out]; congr 1; omega⟩
                      case measure => simp [intOf]; omega
                    · go_wp2
                      go_round
                      case rel => exact ⟨i + 1, by omega, by go_num, by rw [HS1.out, HP.out]; congr 1; omega⟩
                      case measure => simp [intOf]; omega
                    · have g1 : decide (0 < e) = true := by rw [decide_eq_true_eq]; omega
                      have g2 : decide (e < 0) = false := by rw [decide_eq_false_iff_not]; omega
                      go_wp2
                      go_round
                      case rel => exact ⟨i + 1, by omega, by go_num, by rw [HS1.out, HP.out]; congr 1; omega⟩
                      case measure => simp [intOf]; omega
                · have hiq2 : i = q.length := by omega
                  subst hiq2
                  clear hsb HS1 hiq hi
                  rcases (by omega : x < nx ∨ x = nx) with hxn | hxn
                  · have hmx : max nx (x + 1) = nx := by omega
                    have HCS := hid (show c + sumN (addF m q (x : Int)) q.length = costP m (q ++ [(x : Int)]) from (HSN.out x).symm)
                    have HCA := hid (IH.out (q ++ [(x : Int)]) nx T w10 _ F9 (by rw [List.length_append, List.length_singleton]; have := HN.out; omega) (by rw [List.length_append, List.length_singleton]; omega) HO10.out HF9.out HJ10.out (by have := HS9.out; rw [hmx] at this; exact this))
                    rw [List.length_append, List.length_singleton] at HCA
                    rw [HCS.out]
                    rw [hmx] at HSS
                    have hxn2 : (x : Int) ≤ (nx : Int) - 1 := by omega
                    clear hmx hxn
                    go_wp2_with fail
                    refine (HCA.out).mono ?_
                    rintro e w11 ⟨rfl, J11, K11⟩
                    go_wp2
                    go_roundw
                    case rel => exact ⟨x + 1, by omega, by go_num, by rw [HST.out, HSS.out]; exact J11, HK10.out.trans K11⟩
                    case measure => simp [intOf]; omega
                  · have hmx : max nx (x + 1) = nx + 1 := by omega
                    have HCS := hid (show c + sumN (addF m q (x : Int)) q.length = costP m (q ++ [(x : Int)]) from (HSN.out x).symm)
                    have HCA := hid (IH.out (q ++ [(x : Int)]) (nx + 1) T w10 _ F9 (by rw [List.length_append, List.length_singleton]; have := HN.out; omega) (by rw [List.length_append, List.length_singleton]; omega) HO10.out HF9.out HJ10.out (by have := HS9.out; rw [hmx] at this; exact this))
                    rw [List.length_append, List.length_singleton] at HCA
                    rw [HCS.out]
                    rw [hmx] at HSS
                    rw [show (((nx + 1 : Nat) : Int)) - 1 = (x : Int) by omega] at HCA
                    have hxn2 : (nx : Int) - 1 < (x : Int) := by omega
                    clear hmx hxn
                    go_wp2_with fail
                    refine (HCA.out).mono ?_
                    rintro e w11 ⟨rfl, J11, K11⟩
                    go_wp2
                    go_roundw
                    case rel => exact ⟨x + 1, by omega, by go_num, by rw [HST.out, HSS.out]; exact J11, HK10.out.trans K11⟩
                    case measure => simp [intOf]; omega
          · have hxe : x = nx + 1 := by omega
            subst hxe
            have HJ2 := hid hJ
            clear hJ
            go_wp2
            (first | (simp only [Exit.inBlock, Exit.then]; refine bodyPost_ret (results_none rfl _ _ _) rfl ?_) | refine bodyPost_ret (results_none rfl _ _ _) rfl ?_ | go_end0)
            exact ⟨rfl, by rw [HW.out]; exact HJ2.out, hk⟩
end
end Go.Proofs.YtidchfncfcckiaaGreat

namespace Go.Proofs.YtidchfncfcckiaaGreat
open Go.RowKit

theorem bit_test1 {s c : Nat} (hs : s < 2 ^ 63) : (bits .and .i64 ((s : Int) / 2 ^ c) 1 == 1) = s.testBit c := by
  have h := bit_test (s := s) (c := c) hs
  have e : ((s : Int) / 2 ^ c) = ((s / 2 ^ c : Nat) : Int) := by rw [Int.natCast_ediv, Int.natCast_pow]; rfl
  have h2 : s / 2 ^ c ≤ s := Nat.div_le_self _ _
  rw [e, and_one (Nat.lt_of_le_of_lt h2 hs)] at h ⊢
  have : s / 2 ^ c % 2 = 0 ∨ s / 2 ^ c % 2 = 1 := by omega
  rcases this with h3 | h3
  · rw [h3] at h ⊢
    cases ht : s.testBit c with
    | false => rfl
    | true => rw [ht] at h; exact absurd h (by decide)
  · rw [h3] at h ⊢
    cases ht : s.testBit c with
    | true => rfl
    | false => rw [ht] at h; exact absurd h (by decide)

set_option maxHeartbeats 2000000 in
set_option maxRecDepth 20000 in
theorem spec_IsOrder (n : Nat) (v : Value) (o : List Int) (w : World) (h : Sl intR w v o) (ho : OrdB n o) (h1 : 1 ≤ n) (h8 : n ≤ 8) :
    Calls Tryz.prog 130 #[.int .i64 n, v] w fun e w2 => e = .returned (.bool true) ∧ Ext w w2 := by
  obtain ⟨A, cap, rfl, hm⟩ := h.form
  have hin : inB (n : Int) 1 8 = true := by unfold inB; rw [decide_eq_true_eq]; omega
  have HIN := hid (fun (W : World) => spec_l1In (n : Int) 1 8 W)
  rw [hin] at HIN
  have hl := ho.len
  have hne : ((o.length : Int) == (n : Int)) = true := by simp [hl]
  have HL := hid hl
  have HO := hid ho
  clear hin hl ho
  go_enter Tryz.func130, Tryz.ntmps130
  go_wp2_with fail
  go_loopw [5, 6] (fun t i wr => ∃ k s : Nat, k ≤ o.length ∧ i = .int .i64 k ∧ t = .int .i64 s ∧ s < 256 ∧ (∀ p, s.testBit p = true → ∃ j, j < k ∧ o.getD j 0 = p) ∧ Ext w wr) (fun _ i _ => o.length - (intOf i).toNat)
  case atStart => exact ⟨0, 0, Nat.zero_le _, rfl, rfl, by decide, fun p hp => by simp at hp, Ext.refl _⟩
  case round =>
    obtain ⟨k, s, hk, rfl, rfl, hs, hb, hx⟩ := hrel
    by_cases hlt : k < o.length
    · obtain ⟨b, off, rfl, i1, hc⟩ := (h.mono hx).int hlt
      have hkn : k < n := by have := HL.out; omega
      have hbk := HO.out.bd k hkn
      obtain ⟨p, hp⟩ : ∃ p : Nat, o[k] = p := ⟨o[k].toNat, by rw [getD_getElem hlt] at hbk; omega⟩
      have hpe : o.getD k 0 = p := by rw [getD_getElem hlt, hp]
      rw [hpe] at hbk
      rw [hp] at hc
      have hi : inB (p : Int) 0 ((n : Int) - 1) = true := by unfold inB; rw [decide_eq_true_eq]; omega
      have HI := hid (fun (W : World) => spec_l1In (p : Int) 0 ((n : Int) - 1) W)
      rw [hi] at HI
      have hp8 : p < 8 := by omega
      have hbit : s.testBit p = false := by
        cases ht : s.testBit p with
        | false => rfl
        | true =>
          obtain ⟨j, hj, e⟩ := hb p ht
          have := HO.out.inj j k (by omega) hkn (e.trans hpe.symm)
          omega
      have hbt := bit_test1 (s := s) (c := p) (by omega)
      rw [hbit] at hbt
      have hls : s ||| 1 <<< p < 256 := bit_set_lt (n := 8) hs hp8
      have hor := bit_setw (s := s) (c := p) (by omega) (by omega)
      have HNB := hid (show ∀ q, (s ||| 1 <<< p).testBit q = true → ∃ j, j < k + 1 ∧ o.getD j 0 = q from fun q hq => by
        rw [Nat.testBit_or, Nat.one_shiftLeft, Nat.testBit_two_pow, Bool.or_eq_true, decide_eq_true_eq] at hq
        rcases hq with hq | hq
        · obtain ⟨j, hj, e⟩ := hb q hq
          exact ⟨j, by omega, e⟩
        · exact ⟨k, by omega, by rw [hpe, hq]⟩)
      obtain ⟨t, ht⟩ : ∃ t, t = s ||| 1 <<< p := ⟨_, rfl⟩
      rw [← ht] at hls hor HNB
      have HC := hid (fun (W : World) (y : Ext wr W) => y.cell hc)
      have HX := hid hx
      have HLS := hid hls
      have hn8 : decide (8 < n) = false := by rw [decide_eq_false_iff_not]; omega
      clear hb ht hls hbit hi hc hx i1 hp hpe
      have hc := HC.out wr (Ext.refl _)
      go_wp2_with (go_at_call 92; refine (HI.out _).mono ?_; rintro e w3 ⟨rfl, rfl⟩)
      go_roundw
      case rel => exact ⟨k + 1, t, by omega, by go_num, rfl, HLS.out, HNB.out, HX.out⟩
      case measure => simp [intOf]; omega
    · have HX := hid hx
      clear hb hx
      go_wp2_with (go_at_call 92; refine (HIN.out _).mono ?_; rintro e w3 ⟨rfl, rfl⟩)
      go_ret
      exact ⟨rfl, HX.out⟩

set_option maxHeartbeats 4000000 in
set_option maxRecDepth 20000 in
theorem spec_PivotPartition (v u : Value) (m : List (List Int)) (o : List Int) (w : World) (h : Sl (slR intR) w v m) (k : Sl intR w u o) (hm : WM m) (ho : OrdB m.length o) :
    Calls Tryz.prog 97 #[v, u] w fun e w2 => ∃ v2 F, e = .returned v2 ∧ OwnSl intO w2 v2 (pivotP m o) F ∧ NewF w F ∧ Ext w w2 := by
  have HA := hid (spec_IsWeightMatrix v m w h)
  rw [wmB_yes hm] at HA
  have HB := hid (fun (W : World) (y : Ext w W) => spec_IsOrder m.length u o W (k.mono y) ho hm.n1 hm.n8)
  obtain ⟨A, cap, rfl, hm1⟩ := h.form
  obtain ⟨B, cap2, rfl, hm2⟩ := k.form
  have HT := hid (fun (p q : Nat) (hp : p < m.length) (hq : q < m.length) => mat_cells h hm hp hq)
  have HK := hid k
  have HO := hid ho
  have HOL := hid ho.len
  have HPS := hid (piv_same ho)
  have HML := hid (pivM_len m o m.length)
  have HPM := hid (fun (j : Nat) => (show pivM m o (j + 1) = pivJs m (o.getD j 0).toNat (j : Nat) (pivM m o j) from rfl))
  have HPL := hid (fun (j : Nat) => pivM_len m o j)
  have hn1 := hm.n1
  have hn8 := hm.n8
  clear h k hm ho
  go_enter Tryz.func97, Tryz.ntmps97
  go_wp2_with fail
  refine (HA.out).mono ?_
  rintro e w2 ⟨rfl, x2⟩
  go_wp2_with fail
  refine (HB.out _ x2).mono ?_
  rintro e w3 ⟨rfl, x3⟩
  have HX3 := hid (x2.trans x3)
  clear x2 x3
  go_wp2_with fail
  go_loopw [5, 6] (fun t i wr => ∃ q : Nat, q ≤ m.length ∧ i = .int .i64 q ∧ Bld intO wr w3.heap.size 3 t (List.replicate q (-1)) [] ∧ Ext w3 wr) (fun _ i _ => m.length - (intOf i).toNat)
  case atStart => exact ⟨0, Nat.zero_le _, rfl, Bld.lit w3 (Nat.le_refl _) _, (Ext.refl _).alloc _⟩
  case round =>
    obtain ⟨q, hq, rfl, hB, hx⟩ := hrel
    by_cases hlt : q < m.length
    · have HBB := hid hB
      have HX := hid hx
      have HLN := hid (show (List.replicate q (-1 : Int)).length + 1 ≤ 1099511627776 by rw [List.length_replicate]; omega)
      clear hB hx
      go_wp2_with (at_builtin; refine wpList_app1 (R := intO) elemInt (by decide) rfl _ _ rfl HBB.out rfl _ 1 rfl (by simp) (one_int _) (own_int _ _ (by unfold I64; omega)) fresh_nil HLN.out (by decide) HX.out.size ?_; intro v9 w9 hB9 hE9)
      go_roundw
      case rel => exact ⟨q + 1, by omega, by go_num, by rw [List.replicate_succ']; exact hB9, hE9 w3 (Nat.le_refl _) HX.out⟩
      case measure => simp [intOf]; omega
    · have hqn : q = m.length := by omega
      subst hqn
      obtain ⟨F1, o1, n1, f1⟩ := hB.done
      obtain ⟨g0, off0, cap0, e0, k1, k2, k3, k4⟩ := o1.int_store n1 (i := 0) (by rw [List.length_replicate]; omega)
      clear k1 k2 k3 k4
      rw [List.length_replicate] at e0
      subst e0
      have HF1 := hid n1
      have HFB := hid (show ∀ b ∈ F1, w.heap.size ≤ b from fun b hb => Nat.le_trans HX3.out.size (f1 b hb))
      have HX1 := hid (HX3.out.trans hx)
      have HO1 := hid (show OwnSl intO wr (.slice (some ⟨g0, off0, none⟩) m.length cap0) (pivM m o 0) F1 from o1)
      clear hB o1 n1 f1 hx hlt hq
      go_wp2_with fail
      go_loopw [7] (fun i wr => ∃ j : Nat, j ≤ m.length ∧ i = .int .i64 j ∧ OwnSl intO wr (.slice (some ⟨g0, off0, none⟩) m.length cap0) (pivM m o j) F1 ∧ Ext w wr) (fun i _ => m.length - (intOf i).toNat)
      case atStart => exact ⟨0, Nat.zero_le _, rfl, HO1.out, HX1.out⟩
      case round =>
        clear HO1 HX1
        obtain ⟨j, hj, rfl, hO, hx⟩ := hrel
        by_cases hlt : j < m.length
        · have hlo : j < o.length := by have := HOL.out; omega
          have hlo2 : (j : Int) < (o.length : Int) := by omega
          obtain ⟨b, off, eB, i1, hc⟩ := (HK.out.mono hx).int hlo
          subst eB
          have hb := HO.out.bd j hlt
          obtain ⟨p, hp⟩ : ∃ p : Nat, o[j] = p := ⟨o[j].toNat, by rw [getD_getElem hlo] at hb; omega⟩
          have hpe : o.getD j 0 = p := by rw [getD_getElem hlo, hp]
          rw [hpe] at hb
          rw [hp] at hc
          have hpn : p < m.length := by omega
          have HST := hid (show pivM m o (j + 1) = pivJs m p (j : Nat) (pivM m o j) from by rw [HPM.out, hpe, Int.toNat_natCast])
          have hL := HPL.out j
          obtain ⟨L, hLe⟩ : ∃ L, L = pivM m o j := ⟨_, rfl⟩
          rw [← hLe] at HST hO hL
          obtain ⟨g1, off1, cap1, e1, hg1, cp, fp, hst⟩ := hO.int_store HF1.out (i := p) (by omega)
          rw [hL] at e1
          injection e1 with e9 q1 q2
          clear q1 q2
          injection e9 with e9
          injection e9 with e8 e7 q3
          clear q3
          subst e8; subst e7
          have hlp : L[p] = L.getD p 0 := (getD_getElem (by omega)).symm
          rw [hlp] at cp
          obtain ⟨y, hy⟩ : ∃ y, y = L.getD p 0 := ⟨_, rfl⟩
          rw [← hy] at cp
          have HGW := hid (show w.heap.size ≤ g0 from HFB.out g0 hg1)
          have hL0 := hid hL
          clear hp hpe hLe hlp hL hst hg1 i1
          by_cases h0 : 0 ≤ y
          · have HE := hid (show pivJs m p (j : Nat) L = L from by unfold pivJs; rw [if_pos (by rw [← hy]; exact h0)])
            have h0d : decide (0 ≤ y) = true := by simp [h0]
            have HOO := hid hO
            clear hO hy
            go_wp2
            go_roundw
            case rel => exact ⟨j + 1, by omega, by go_num, by rw [HST.out, HE.out]; exact HOO.out, hx⟩
            case measure => simp [intOf]; omega
          · have HE := hid (show pivJs m p (j : Nat) L = pivJn m p (j : Nat) L m.length from by unfold pivJs; rw [if_neg (by rw [← hy]; exact h0)])
            have h0d : decide (0 ≤ y) = false := by simp; omega
            have HO2 := hid hO
            have HX2 := hid hx
            clear hO hy hx h0
            go_wp2_with fail
            go_loopw [9] (fun i wr => ∃ q : Nat, q ≤ m.length ∧ i = .int .i64 q ∧ OwnSl intO wr (.slice (some ⟨g0, off0, none⟩) m.length cap0) (pivJn m p (j : Nat) L q) F1 ∧ Ext w wr) (fun i _ => m.length - (intOf i).toNat)
            case atStart => exact ⟨0, Nat.zero_le _, rfl, HO2.out, HX2.out⟩
            case round =>
              clear HO2 HX2 hc cp fp
              obtain ⟨q, hq, rfl, hO, hx⟩ := hrel
              by_cases hqm : q < m.length
              · obtain ⟨bm, om, br, or, cr, eA, ht⟩ := HT.out p q hpn hqm
                subst eA
                obtain ⟨ct, cm2⟩ := ht wr hx
                have hLq := pivJn_len m p (j : Nat) L q
                obtain ⟨Q, hQ⟩ : ∃ Q, Q = pivJn m p (j : Nat) L q := ⟨_, rfl⟩
                have HS := hid (show pivJn m p (j : Nat) L (q + 1) = if Q.getD q 0 < 0 ∧ (q = p ∨ 0 < ent m p q) then Q.set q (j : Nat) else Q from by rw [pivJn, hQ])
                rw [← hQ] at hO hLq
                rw [hL0.out] at hLq
                obtain ⟨g2, off2, cap2', e1, g3, cp, fp, hst⟩ := hO.int_store HF1.out (i := q) (by omega)
                rw [hLq] at e1
                injection e1 with e9 q1 q2
                clear q1 q2
                injection e9 with e9
                injection e9 with e8 e7 q3
                clear q3
                subst e8; subst e7
                have hlq : Q[q]'(by omega) = Q.getD q 0 := (getD_getElem (by omega)).symm
                rw [hlq] at cp
                obtain ⟨x, hxe⟩ : ∃ x, x = ent m p q := ⟨_, rfl⟩
                obtain ⟨z, hz⟩ : ∃ z, z = Q.getD q 0 := ⟨_, rfl⟩
                rw [← hxe] at HS cm2 ht
                rw [← hz] at HS cp
                have HO3 := hid hO
                have HO4 := hid (hst (j : Nat) (by unfold I64; omega))
                have HX3 := hid hx
                have HX4 := hid (hx.setCell (p := ⟨g0, off0 + q, none⟩) (HGW.out) (.int .i64 (j : Nat)))
                clear hQ hlq hxe hz hLq hO hst hx ht g3
                by_cases hz0 : z < 0
                · have hz0d : decide (z < 0) = true := by simp [hz0]
                  by_cases hqp : q = p
                  · have hq1 : ((q : Int) == (p : Int)) = true := by simp [hqp]
                    have HE2 := hid (show pivJn m p (j : Nat) L (q + 1) = Q.set q (j : Nat) from by rw [HS.out, if_pos ⟨hz0, .inl hqp⟩])
                    clear hqp hz0
                    go_wp2
                    go_roundw
                    case rel => exact ⟨q + 1, by omega, by go_num, by rw [HE2.out]; exact HO4.out, HX4.out⟩
                    case measure => simp [intOf]; omega
                  · have hq1 : ((q : Int) == (p : Int)) = false := by rw [beq_eq_false_iff_ne]; omega
                    by_cases hx0 : 0 < x
                    · have hx0d : decide (0 < x) = true := by simp [hx0]
                      have HE2 := hid (show pivJn m p (j : Nat) L (q + 1) = Q.set q (j : Nat) from by rw [HS.out, if_pos ⟨hz0, .inr hx0⟩])
                      clear hqp hz0 hx0
                      go_wp2
                      go_roundw
                      case rel => exact ⟨q + 1, by omega, by go_num, by rw [HE2.out]; exact HO4.out, HX4.out⟩
                      case measure => simp [intOf]; omega
                    · have hx0d : decide (0 < x) = false := by simp; omega
                      have HE2 := hid (show pivJn m p (j : Nat) L (q + 1) = Q from by rw [HS.out, if_neg fun h => h.2.elim hqp hx0])
                      clear hqp hz0 hx0
                      go_wp2
                      go_roundw
                      case rel => exact ⟨q + 1, by omega, by go_num, by rw [HE2.out]; exact HO3.out, HX3.out⟩
                      case measure => simp [intOf]; omega
                · have hz0d : decide (z < 0) = false := by simp; omega
                  have HE2 := hid (show pivJn m p (j : Nat) L (q + 1) = Q from by rw [HS.out, if_neg fun h => hz0 h.1])
                  clear hz0
                  go_wp2
                  go_roundw
                  case rel => exact ⟨q + 1, by omega, by go_num, by rw [HE2.out]; exact HO3.out, HX3.out⟩
                  case measure => simp [intOf]; omega
              · have hqm2 : q = m.length := by omega
                subst hqm2
                have HO3 := hid hO
                clear hO
                go_wp2
                go_roundw
                case rel => exact ⟨j + 1, by omega, by go_num, by rw [HST.out, HE.out]; exact HO3.out, hx⟩
                case measure => simp [intOf]; omega
        · have hjm : j = m.length := by omega
          subst hjm
          have hlo2 : ¬ ((m.length : Int) < (o.length : Int)) := by have := HOL.out; omega
          have HCL := hid (spec_CanonicalLabels _ _ _ hO.sl (by rw [HML.out]; omega))
          rw [HPS.out] at HCL
          clear hO
          go_wp2_with fail
          refine (HCL.out).mono ?_
          rintro e w4 ⟨v4, F4, rfl, o4, n4, x4⟩
          go_wp2
          go_ret
          exact ⟨v4, F4, rfl, o4, n4.ext hx, hx.trans x4⟩
end Go.Proofs.YtidchfncfcckiaaGreat

namespace Go.Proofs.YtidchfncfcckiaaGreat
open Go.RowKit

def miP (l : List Int) (i k : Nat) : List Int := if k ≤ (nextOf l).toNat then movedP l i k else l
set_option maxHeartbeats 2000000 in
set_option maxRecDepth 20000 in
theorem spec_MoveItem (v : Value) (l : List Int) (i k : Nat) (w : World) (h : Sl intR w v l) (hp : partB l = true) (hi : i < l.length) (hk : k ≤ 8) :
    Calls Tryz.prog 102 #[v, .int .i64 i, .int .i64 k] w fun e w2 => ∃ v2 F, e = .returned (.tuple #[v2, .bool (decide (k ≤ (nextOf l).toNat))]) ∧ OwnSl intO w2 v2 (miP l i k) F ∧ NewF w F ∧ Ext w w2 := by
  obtain ⟨hr, h1, h8⟩ := partB_iff.1 hp
  have hnb := RG.next_le (l := l) (k := l.length) (by rw [List.take_length]; exact hr) (Nat.le_refl _)
  rw [List.take_length] at hnb
  obtain ⟨A, cap, rfl, hm⟩ := h.form
  have HH := hid h
  have HSZ := hid (show l.length ≤ 1099511627776 by omega)
  have HIP := hid (fun (W : World) (y : Ext w W) => spec_IsPartition _ l W (h.mono y))
  rw [hp] at HIP
  have HI := hid (fun (W : World) => (show Calls Tryz.prog 92 #[.int .i64 i, .int .i64 0, .int .i64 ((l.length : Int) - 1)] W fun e w2 => e = .returned (.bool true) ∧ W = w2 from by
    have := spec_l1In (i : Int) 0 ((l.length : Int) - 1) W
    rwa [show inB (i : Int) 0 ((l.length : Int) - 1) = true from by unfold inB; rw [decide_eq_true_eq]; omega] at this))
  have HB := hid (fun (W : World) => spec_l1In (k : Int) 0 (nextOf l) W)
  have HMX := hid (fun (j : Nat) (hj : j ≤ l.length) => RG.next_le (hr.take j) hj)
  clear h hp hr hm
  go_enter Tryz.func102, Tryz.ntmps102
  go_wp2_with (at_builtin; refine wpList_appn elemInt rfl _ _ rfl (Bld.lit (R := intO) w (Nat.le_refl _) 3) rfl rfl (HH.out.mono ((Ext.refl w).alloc _)) (by simp; exact HSZ.out) (by simp) ?_; intro v9 w9 hB9 hE9; rw [List.nil_append] at hB9)
  obtain ⟨F9, o9, n9, f9⟩ := hB9.done
  have x9 := hE9 w (Nat.le_refl _) ((Ext.refl w).alloc _)
  obtain ⟨g, off, cap2, e9, hg, cg, fg, st⟩ := o9.int_store n9 hi
  subst e9
  have HO := hid (And.intro o9 (And.intro n9 f9))
  have HST := hid (st (k : Int) (by unfold I64; omega))
  have HX := hid x9
  have HG := hid (show w.heap.size ≤ g from f9 g hg)
  have HCG := hid (And.intro (fun W (y : Ext w9 W) => y.cell cg) fg)
  have HXS := hid (x9.setCell (p := ⟨g, off + i, none⟩) HG.out (.int .i64 k))
  clear hB9 hE9 o9 n9 f9 x9 hg cg fg st
  go_loop [9, 10] (fun t j => ∃ q : Nat, q ≤ l.length ∧ j = .int .i64 q ∧ t = .int .i64 (nextOf (l.take q) - 1)) (fun _ j => l.length - (intOf j).toNat)
  case atStart => exact ⟨0, Nat.zero_le _, rfl, rfl⟩
  case round =>
    obtain ⟨q, hq, rfl, rfl⟩ := hrel
    by_cases hlt : q < l.length
    · obtain ⟨b, o, rfl, i1, hc⟩ := (HH.out.mono HX.out).int hlt
      have HN := hid (nextOf_take hlt)
      have hbq := HMX.out q hq
      obtain ⟨nx, hnx⟩ : ∃ nx, nx = nextOf (l.take q) - 1 := ⟨_, rfl⟩
      rw [show nextOf (l.take q) = nx + 1 by omega] at HN hbq
      rw [← hnx]
      obtain ⟨x, hx⟩ : ∃ x, x = l[q] := ⟨_, rfl⟩
      rw [← hx] at HN hc i1
      clear hnx hx
      rcases (by omega : nx < x ∨ x ≤ nx) with hcmp | hcmp
      · go_wp2
        go_round
        case rel => exact ⟨q + 1, by omega, by go_num, by rw [HN.out]; congr 1; omega⟩
        case measure => simp [intOf]; omega
      · go_wp2
        go_round
        case rel => exact ⟨q + 1, by omega, by go_num, by rw [HN.out]; congr 1; omega⟩
        case measure => simp [intOf]; omega
    · have hql : q = l.length := by omega
      subst hql
      try rw [List.take_length]
      have HIP2 := hid (HIP.out w9 HX.out)
      have HCL := hid (spec_CanonicalLabels _ _ _ HST.out.sl (by rw [List.length_set]; omega))
      obtain ⟨nx, hnx⟩ : ∃ n : Nat, nextOf l = n := ⟨(nextOf l).toNat, by omega⟩
      have HMI := hid (show miP l i k = if k ≤ nx then movedP l i k else l from by unfold miP; rw [hnx, Int.toNat_natCast])
      have HNX := hid hnx
      rw [hnx] at HB
      try rw [hnx]
      have hnx8 : nx ≤ 8 := by omega
      clear hnx hnb hlt hq
      have hil : (i : Int) < (l.length : Int) := by omega
      by_cases hkn : k ≤ nx
      · have hb : inB (k : Int) 0 (nx : Int) = true := by unfold inB; rw [decide_eq_true_eq]; omega
        rw [hb] at HB
        rw [if_pos hkn] at HMI
        have HD := hid (show decide (k ≤ (nextOf l).toNat) = true from by rw [HNX.out]; simp [hkn])
        have cg := HCG.out.1 w9 (Ext.refl _)
        have fg := HCG.out.2
        clear hb hkn
        go_wp2_with fail
        refine (HIP2.out).mono ?_
        rintro e w3 ⟨rfl, rfl⟩
        go_wp2_with fail
        refine (HI.out _).mono ?_
        rintro e w3 ⟨rfl, rfl⟩
        go_wp2_with fail
        refine (HB.out _).mono ?_
        rintro e w3 ⟨rfl, rfl⟩
        go_wp2_with fail
        refine (HCL.out).mono ?_
        rintro e w3 ⟨v3, F3, rfl, o3, n3, x3⟩
        obtain ⟨A3, c3, e3, _⟩ := o3.form
        subst e3
        have HO3 := hid (And.intro o3 (And.intro (n3.ext HXS.out) (HXS.out.trans x3)))
        clear o3 n3 x3
        go_wp2_with fail
        refine bodyPost_ret (v := .tuple #[.slice A3 (canonL (l.set i (k : Int))).length c3, .bool true]) (by simp [results, Tryz.results102, go_sem]) rfl ?_
        exact ⟨_, F3, by rw [HD.out], by rw [HMI.out]; exact HO3.out.1, HO3.out.2.1, HO3.out.2.2⟩
      · have hb : inB (k : Int) 0 (nx : Int) = false := by unfold inB; rw [decide_eq_false_iff_not]; omega
        rw [hb] at HB
        rw [if_neg hkn] at HMI
        have HD := hid (show decide (k ≤ (nextOf l).toNat) = false from by rw [HNX.out]; simp [hkn])
        clear hb hkn
        go_wp2_with fail
        refine (HIP2.out).mono ?_
        rintro e w3 ⟨rfl, rfl⟩
        go_wp2_with fail
        refine (HI.out _).mono ?_
        rintro e w3 ⟨rfl, rfl⟩
        go_wp2_with fail
        refine (HB.out _).mono ?_
        rintro e w3 ⟨rfl, rfl⟩
        go_wp2_with fail
        refine bodyPost_ret (v := .tuple #[.slice (some ⟨g, off, none⟩) l.length cap2, .bool false]) (by simp [results, Tryz.results102, go_sem]) rfl ?_
        exact ⟨_, F9, by rw [HD.out], by rw [HMI.out]; exact HO.out.1, ⟨HO.out.2.1, HO.out.2.2⟩, HX.out⟩

set_option maxHeartbeats 400000 in
set_option maxRecDepth 20000 in
theorem spec_MoveGain (v u : Value) (m : List (List Int)) (l : List Int) (i k : Nat) (w : World) (h : Sl (slR intR) w v m) (h3 : Sl intR w u l) (hm : WM m) (hp : partB l = true) (hl : l.length = m.length) (hi : i < l.length) (hk : k ≤ 8) :
    Calls Tryz.prog 131 #[v, u, .int .i64 i, .int .i64 k] w fun e w2 => e = .returned (.int .i64 (if k ≤ (nextOf l).toNat then costP m l - costP m (movedP l i k) else 0)) ∧ Ext w w2 := by
  have HMI := hid (spec_MoveItem u l i k w h3 hp hi hk)
  have HPC := hid (fun (W : World) (y : Ext w W) => spec_PartitionCost v u m l W (h.mono y) (h3.mono y) hm hp hl)
  have HPX := hid (fun (W : World) (y : Ext w W) (z : Value) (q : Sl intR W z (movedP l i k)) => spec_PartitionCost v z m _ W (h.mono y) q hm (movedP_part hp i k) (by rw [(movedP_facts l i k).2]; exact hl))
  have hc1 := costP_le hm (p := l) (by omega)
  have hc2 := costP_le hm (p := movedP l i k) (by rw [(movedP_facts l i k).2]; omega)
  obtain ⟨c1, h1⟩ : ∃ c, c = costP m l := ⟨_, rfl⟩
  obtain ⟨c2, h2⟩ : ∃ c, c = costP m (movedP l i k) := ⟨_, rfl⟩
  rw [← h1] at HPC hc1 ⊢
  rw [← h2] at HPX hc2 ⊢
  obtain ⟨A, cap, rfl, hm1⟩ := h.form
  obtain ⟨C, cap3, rfl, hm3⟩ := h3.form
  clear h h3 hm hp hl hi hk h1 h2
  by_cases hk : k ≤ (nextOf l).toNat
  · have HMD := hid (show miP l i k = movedP l i k from by unfold miP; rw [if_pos hk])
    rw [if_pos hk]
    rw [show decide (k ≤ (nextOf l).toNat) = true from by simp [hk], HMD.out] at HMI
    have hd : decide (c1 < 0) = false := by simp; omega
    clear hk
    go_enter Tryz.func131, Tryz.ntmps131
    go_wp2_with fail
    refine (HMI.out).mono ?_
    rintro e w2 ⟨v2, F2, rfl, o2, n2, x2⟩
    obtain ⟨A2, cc2, e2, _⟩ := o2.form
    subst e2
    have HO2 := hid o2.sl
    clear o2 n2
    go_wp2_with fail
    refine (HPC.out _ x2).mono ?_
    rintro e w3 ⟨rfl, x3⟩
    go_wp2_with fail
    refine (HPX.out _ (x2.trans x3) _ (HO2.out.mono x3)).mono ?_
    rintro e w4 ⟨rfl, x4⟩
    go_wp2
    go_ret
    exact ⟨rfl, (x2.trans x3).trans x4⟩
  · rw [if_neg hk]
    rw [show decide (k ≤ (nextOf l).toNat) = false from by simp [hk]] at HMI
    clear hk
    go_enter Tryz.func131, Tryz.ntmps131
    go_wp2_with fail
    refine (HMI.out).mono ?_
    rintro e w2 ⟨v2, F2, rfl, o2, n2, x2⟩
    obtain ⟨A2, cc2, e2, _⟩ := o2.form
    subst e2
    clear o2 n2
    go_wp2_with fail
    refine (HPC.out _ x2).mono ?_
    rintro e w3 ⟨rfl, x3⟩
    go_wp2
    go_ret
    exact ⟨rfl, x2.trans x3⟩
end Go.Proofs.YtidchfncfcckiaaGreat
