/-
  WALK: l26Order (the reference's).
-/
import Derived.Test.YtfcbapaojoecgabMgEndFnId6
import Derived.Test.YtfcbapaojoecgabMgEndFnId0
import Derived.Test.YtfcbapaojoecgabMgEndFnId3
import Derived.Deep.RegionHeld3

namespace Go.Proofs.Ytfcbapaojoecgab
open Go.RowKit

def hdI (x : List Int) : Int := x.getD 0 0
theorem hdI_eq {x : List Int} (h : 0 < x.length) : hdI x = x[0] := getD_at h
theorem one_in (w : World) (cs : List Value) (x : Int) (h : intR.rd w cs x) : ∀ u ∈ cs, u.oneCell' = true := by
  obtain ⟨rfl, _⟩ := h
  simp [Value.oneCell']
theorem one_sl (w : World) (cs : List Value) (x : List Int) (h : (slR intR).rd w cs x) : ∀ u ∈ cs, u.oneCell' = true := by
  obtain ⟨v, rfl, h⟩ := h
  obtain ⟨A, c, rfl, _⟩ := h.form
  simp [Value.oneCell']

set_option maxHeartbeats 8000000 in
set_option maxRecDepth 20000 in
theorem spec_l26Order (v : Value) (g : List (List Int)) (w : World) (h : Sl (slR intR) w v g) (hl : g.length ≤ 1048576) (hg : ∀ x ∈ g, 0 < x.length ∧ x.length ≤ 1048576) :
    Calls Try.prog 30 #[v] w fun e w2 => ∃ v2, e = .returned v2 ∧ Sl (slR intR) w2 v2 (sortK hdI g) ∧ Ext w w2 := by
  obtain ⟨A, cap, rfl, hm⟩ := h.form
  go_enter Try.func30, Try.ntmps30
  go_wp2_with fail
  go_loopw [3, 4] (fun t i wr => ∃ (k : Nat) (bo oo co : Nat) (out : List (List Int)), k ≤ g.length ∧ i = .int .i64 k ∧ t = .slice (some ⟨bo, oo, none⟩) out.length co ∧ Sl (slR intR) wr t out ∧ sortK hdI (g.take k) = out ∧ Ext w wr) (fun _ i _ => g.length - (intOf i).toNat)
  case atStart => exact ⟨0, _, _, _, [], Nat.zero_le _, rfl, rfl, (Bld.lit (R := slO intO) w (Nat.le_refl _) 40).sl, rfl, (Ext.refl _).alloc _⟩
  case round =>
    obtain ⟨k, bo, oo, co, out, hk, rfl, rfl, hB, hout, hx⟩ := hrel
    have hol : out.length ≤ 1048576 := by rw [← hout, sortK_len, List.length_take]; omega
    have hog : ∀ x ∈ out, 0 < x.length := fun x hx => (hg x (List.mem_of_mem_take ((sortK_perm hdI (g.take k)).mem_iff.1 (by rw [hout]; exact hx)))).1
    have HOUT := hid hout
    clear hout
    by_cases hlt : k < g.length
    · obtain ⟨b, off, A1, cap1, eA, hr, c0⟩ := (h.mono hx).sl hlt
      subst eA
      obtain ⟨w0, hw0⟩ : ∃ w0, w0 = wr := ⟨_, rfl⟩
      rw [← hw0] at hB hx hr c0 ⊢
      clear hw0
      obtain ⟨hg0, hg1⟩ := hg g[k] (List.getElem_mem hlt)
      obtain ⟨bg, og, rfl, hI1, d0⟩ := hr.int hg0
      have HCK := hid (show ∀ W, Ext w0 W → W.cell? ⟨b, off + k, none⟩ = some (.slice (some ⟨bg, og, none⟩) g[k].length cap1) from fun W y => y.cell c0)
      have HRW := hid (show ∀ W, Ext w0 W → Sl intR W (.slice (some ⟨bg, og, none⟩) g[k].length cap1) g[k] from fun W y => hr.mono y)
      have HD0 := hid (show ∀ W, Ext w0 W → W.cell? ⟨bg, og, none⟩ = some (.int .i64 g[k][0]) from fun W y => y.cell (by simpa using d0))
      have HSO := hid (show ∀ W, Ext w0 W → Sl (slR intR) W (.slice (some ⟨bo, oo, none⟩) out.length co) out from fun W y => hB.mono y)
      have HX := hid hx
      have HOG := hid hog
      clear hB hx c0 hr d0 hog hI1
      go_wp2_with fail
      go_loopw [5] (fun j wi => ∃ q : Nat, q ≤ out.length ∧ j = .int .i64 q ∧ (∀ x ∈ out.drop q, hdI g[k] < hdI x) ∧ Ext w0 wi) (fun j _ => (intOf j).toNat)
      case atStart => exact ⟨out.length, Nat.le_refl _, rfl, (fun x hx => by rw [List.drop_length] at hx; cases hx), Ext.refl _⟩
      case round =>
        obtain ⟨q, hq, rfl, hal, hxi⟩ := hrel
        have HAL := hid hal
        clear hal
        by_cases hq0 : 0 < q
        · have hlt1 : q - 1 < out.length := by omega
          obtain ⟨b2, off2, Ao, capo, e2, ho, d1⟩ := (HSO.out _ hxi).sl hlt1
          injection e2 with e2
          injection e2 with e3 e4 _
          subst e3; subst e4
          have ho0 : 0 < out[q - 1].length := HOG.out _ (List.getElem_mem hlt1)
          obtain ⟨br, orr, rfl, _, d2⟩ := ho.int ho0
          have hsub : ((q - 1 : Nat) : Int) = (q : Int) - 1 := by omega
          have z0 : ∀ z : ExtOf wr, z.1.cell? ⟨bo, oo + (q - 1), none⟩ = _ := fun z => z.2.cell d1
          have z1 : ∀ z : ExtOf wr, z.1.cell? ⟨br, orr, none⟩ = some (.int .i64 out[q - 1][0]) := fun z => z.2.cell (by simpa using d2)
          have y0 : ∀ z : ExtOf wr, z.1.cell? ⟨b, off + k, none⟩ = _ := fun z => HCK.out _ (hxi.trans z.2)
          have y1 : ∀ z : ExtOf wr, z.1.cell? ⟨bg, og, none⟩ = _ := fun z => HD0.out _ (hxi.trans z.2)
          have HE := hid (And.intro (hdI_eq hg0) (hdI_eq ho0))
          clear d1 d2 ho
          by_cases hpos : g[k][0] < out[q - 1][0]
          · have HDR := hid (show ∀ x ∈ out.drop (q - 1), hdI g[k] < hdI x from by
              intro x hx
              have e : out.drop (q - 1) = out[q - 1] :: out.drop q := by
                rw [← List.getElem_cons_drop (h := hlt1)]; congr 2; omega
              rw [e] at hx
              rcases List.mem_cons.1 hx with rfl | hx
              · rw [HE.out.1, HE.out.2]; exact hpos
              · exact HAL.out x hx)
            go_wp2_with fail
            refine wp_region_ext (by kernel_rfl) (by kernel_rfl) ?_
            repeat (go_big_quiet_step ((fail)))
            refine wpQuiet_nil ?_
            rintro w6 ⟨⟨_, x6⟩, rfl⟩
            go_wp2
            go_roundw
            case rel => exact ⟨q - 1, by omega, by rw [hsub]; try go_num, HDR.out, hxi.trans x6⟩
            case measure => simp [intOf]; omega
          · have hpB : decide (g[k][0] < out[q - 1][0]) = false := by simp only [decide_eq_false_iff_not]; exact hpos
            have HCN := hid (cntK_eq hdI (v := g[k]) hq HAL.out (fun _ => by rw [HE.out.1, HE.out.2]; exact hpos))
            clear hpos
            go_wp2_with fail
            refine wp_region_ext (by kernel_rfl) (by kernel_rfl) ?_
            repeat (go_big_quiet_step ((fail)))
            refine wpQuiet_nil ?_
            rintro w6 ⟨⟨_, x6⟩, rfl⟩
            clear z0 z1 y0 y1 hpB
            have HCNT := hid (show insK hdI out g[k] = out.take q ++ [g[k]] ++ out.drop q from by
              have := HCN.out
              unfold insK
              rw [this]
              simp)
            obtain ⟨wq, hwq⟩ : ∃ wq, wq = w6 := ⟨_, rfl⟩
            rw [← hwq] at x6 ⊢
            clear hwq
            have xq : Ext w0 wq := hxi.trans x6
            have HBQ := hid (show ∀ W, Ext wq W → W.cell? ⟨b, off + k, none⟩ = some (.slice (some ⟨bg, og, none⟩) g[k].length cap1) from fun W y => HCK.out _ (xq.trans y))
            have hcap := (HSO.out wq xq).cap_
            have HTK := hid ((HSO.out wq xq).take (k := q) hq)
            have HROW := hid (HRW.out wq xq)
            obtain ⟨A2, hA2, HTD⟩ := Sl.tail1 rfl (HSO.out wq xq) q hq
            have HL0 := hid (show ([] : List Int).length + g[k].length ≤ 1099511627776 by simp only [List.length_nil]; omega)
            have HL1 := hid (show ([] : List (List Int)).length + q ≤ 1099511627776 by simp only [List.length_nil]; omega)
            have HL2 := hid (show (out.take q).length + 1 ≤ 1099511627776 by rw [List.length_take]; omega)
            have HL3 := hid (show (out.take q ++ [g[k]]).length + (out.length - q) ≤ 1099511627776 by simp only [List.length_append, List.length_take, List.length_cons, List.length_nil]; omega)
            have bq1 : q ≤ co := by omega
            have bq2 : (q : Int) ≤ (out.length : Int) := by omega
            have bq3 : (q : Int) ≤ (co : Int) := by omega
            have HX9 := hid (HX.out.trans xq)
            clear hcap x6 hxi
            go_wp2_with fail
            go_region_held3 (fun w' => w'.cell? ⟨b, off + k, none⟩ = some (.slice (some ⟨bg, og, none⟩) g[k].length cap1)) (exact HBQ.out _ (by repeat (first | with_reducible exact Ext.refl _ | with_reducible assumption | with_reducible refine Ext.drew ?_ | with_reducible refine Ext.alloc ?_ _ | with_reducible refine Ext.trans ?_ (by with_reducible assumption)))) (first | (have hthird := hB3; refine step_appPS (R := slR intR) (p := (fun cs x => (slR intR).rd wq cs x ∨ (cs = [.slice A5 g[k].length c5] ∧ x = g[k]))) (by decide) elemInts (by decide) one_sl rfl _ _ rfl hB3 rfl rfl (w1 := wq) HTD.out (by repeat (first | with_reducible exact Ext.refl _ | with_reducible assumption | with_reducible refine Ext.drew ?_ | with_reducible refine Ext.alloc ?_ _ | with_reducible refine Ext.trans ?_ (by with_reducible assumption))) (fun _ _ h => .inl h) HL3.out x3.size (w0 := wq) (Nat.le_refl _) x3 ?_; intro v7 w7 hB4 x4 a4) | (have hboth := And.intro hB1 hB2; refine step_appP1 (R := slR intR) (p := (fun cs x => (slR intR).rd wq cs x ∨ (cs = [.slice A5 g[k].length c5] ∧ x = g[k]))) (by decide) elemInts (by decide) rfl _ _ rfl (hB1.moveP (by intro b9 hb9; have q1 := o4 b9 hb9; have q2 := (hB1.lt.2 b9 hb9).1; repeat (first | with_reducible rfl | with_reducible exact heap_new (by (try simp only [World.size_alloc, World.size_drew]) <;> omega) | with_reducible refine heap_drew ?_ | with_reducible refine heap_old (by (try simp only [World.size_alloc, World.size_drew]) <;> omega) ?_ | refine (a1.keep _ (by (try simp only [World.size_alloc, World.size_drew]) <;> omega) (own_ne (by (try simp only [World.size_alloc, World.size_drew]) <;> omega))).trans ?_ | refine (a2.keep _ (by (try simp only [World.size_alloc, World.size_drew]) <;> omega) (own_ne (by (try simp only [World.size_alloc, World.size_drew]) <;> omega))).trans ?_)) (fun _ _ h => .inl h)) rfl _ 1 rfl (c := #[.slice A5 g[k].length c5]) (T := 40) (fr := (0, 0)) (by repeat (first | with_reducible rfl | with_reducible exact heap_new (by (try simp only [World.size_alloc, World.size_drew]) <;> omega) | with_reducible refine heap_drew ?_ | with_reducible refine heap_old (by (try simp only [World.size_alloc, World.size_drew]) <;> omega) ?_ | refine (a1.keep _ (by (try simp only [World.size_alloc, World.size_drew]) <;> omega) (own_ne (by (try simp only [World.size_alloc, World.size_drew]) <;> omega))).trans ?_ | refine (a2.keep _ (by (try simp only [World.size_alloc, World.size_drew]) <;> omega) (own_ne (by (try simp only [World.size_alloc, World.size_drew]) <;> omega))).trans ?_)) (by simp [Value.oneCell']) (y := g[k]) (.inr ⟨rfl, rfl⟩) rfl HL2.out (by (try simp only [World.size_alloc, World.size_drew]) <;> omega) (w0 := wq) (Nat.le_refl _) (by repeat (first | with_reducible exact Ext.refl _ | with_reducible assumption | with_reducible refine Ext.drew ?_ | with_reducible refine Ext.alloc ?_ _ | with_reducible refine Ext.trans ?_ (by with_reducible assumption))) ?_; intro v6 w6 hB3 x3 a3) | (refine step_appPS (R := slR intR) (p := (slR intR).rd wq) (by decide) elemInts (by decide) one_sl rfl _ _ rfl (Bld.empP (base := wq.heap.size) (by (try simp only [World.size_alloc, World.size_drew]) <;> omega) (by repeat (first | with_reducible rfl | with_reducible exact heap_new (by (try simp only [World.size_alloc, World.size_drew]) <;> omega) | with_reducible refine heap_drew ?_ | with_reducible refine heap_old (by (try simp only [World.size_alloc, World.size_drew]) <;> omega) ?_ | refine (a1.keep _ (by (try simp only [World.size_alloc, World.size_drew]) <;> omega) (own_ne (by (try simp only [World.size_alloc, World.size_drew]) <;> omega))).trans ?_ | refine (a2.keep _ (by (try simp only [World.size_alloc, World.size_drew]) <;> omega) (own_ne (by (try simp only [World.size_alloc, World.size_drew]) <;> omega))).trans ?_))) rfl rfl (w1 := wq) HTK.out (by repeat (first | with_reducible exact Ext.refl _ | with_reducible assumption | with_reducible refine Ext.drew ?_ | with_reducible refine Ext.alloc ?_ _ | with_reducible refine Ext.trans ?_ (by with_reducible assumption))) (fun _ _ h => h) HL1.out (by (try simp only [World.size_alloc, World.size_drew]) <;> omega) (w0 := wq) (Nat.le_refl _) (by repeat (first | with_reducible exact Ext.refl _ | with_reducible assumption | with_reducible refine Ext.drew ?_ | with_reducible refine Ext.alloc ?_ _ | with_reducible refine Ext.trans ?_ (by with_reducible assumption))) ?_; intro v4 w4 hB1 x1 a1; rw [List.nil_append] at hB1; have z4 := a1.size; have o4 := a1.own0; (try simp only [World.size_alloc, World.size_drew] at z4 o4)) | (refine step_appPS (R := intR) (p := intR.rd wq) (by decide) elemInt (by decide) one_in rfl _ _ rfl (Bld.empP (base := wq.heap.size) (by (try simp only [World.size_alloc, World.size_drew]) <;> omega) (by repeat (first | with_reducible rfl | with_reducible exact heap_new (by (try simp only [World.size_alloc, World.size_drew]) <;> omega) | with_reducible refine heap_drew ?_ | with_reducible refine heap_old (by (try simp only [World.size_alloc, World.size_drew]) <;> omega) ?_ | refine (a1.keep _ (by (try simp only [World.size_alloc, World.size_drew]) <;> omega) (own_ne (by (try simp only [World.size_alloc, World.size_drew]) <;> omega))).trans ?_ | refine (a2.keep _ (by (try simp only [World.size_alloc, World.size_drew]) <;> omega) (own_ne (by (try simp only [World.size_alloc, World.size_drew]) <;> omega))).trans ?_))) rfl rfl (w1 := wq) HROW.out (by repeat (first | with_reducible exact Ext.refl _ | with_reducible assumption | with_reducible refine Ext.drew ?_ | with_reducible refine Ext.alloc ?_ _ | with_reducible refine Ext.trans ?_ (by with_reducible assumption))) (fun _ _ h => h) HL0.out (by (try simp only [World.size_alloc, World.size_drew]) <;> omega) (w0 := wq) (Nat.le_refl _) (by repeat (first | with_reducible exact Ext.refl _ | with_reducible assumption | with_reducible refine Ext.drew ?_ | with_reducible refine Ext.alloc ?_ _ | with_reducible refine Ext.trans ?_ (by with_reducible assumption))) ?_; intro v5 w5 hB2 x2 a2; rw [List.nil_append] at hB2; have z5 := a2.size; have o5 := a2.own0; (try simp only [World.size_alloc, World.size_drew] at z5 o5); obtain ⟨A5, c5, e5, _⟩ := hB2.sl.form; subst e5))
            all_goals
              have HPR := hid (show ∀ b, (Value.slice A5 g[k].length c5).ownBlock = some b → w7.heap[b]? = w5.heap[b]? from by
                intro b hb
                have q1 := o5 b hb
                have q2 := (hB2.lt.2 b hb).1
                have z3 := a3.size
                (try simp only [World.size_alloc, World.size_drew] at z3)
                have n4 : v4.ownBlock ≠ some b := by
                  intro h9
                  have r1 := o4 b h9
                  have r2 := (hB1.lt.2 b h9).1
                  omega
                have n6 : v6.ownBlock ≠ some b := by
                  intro h9
                  rcases a3.own b h9 with h9 | h9
                  · exact n4 h9
                  · (try simp only [World.size_alloc, World.size_drew] at h9)
                    omega
                refine (a4.keep b (by omega) n6).trans ?_
                refine (a3.keep b (by (try simp only [World.size_alloc, World.size_drew]) <;> omega) n4).trans ?_
                repeat (first | with_reducible rfl | with_reducible exact heap_new (by (try simp only [World.size_alloc, World.size_drew]) <;> omega) | with_reducible refine heap_drew ?_ | with_reducible refine heap_old (by (try simp only [World.size_alloc, World.size_drew]) <;> omega) ?_ | refine (a1.keep _ (by (try simp only [World.size_alloc, World.size_drew]) <;> omega) (own_ne (by (try simp only [World.size_alloc, World.size_drew]) <;> omega))).trans ?_ | refine (a2.keep _ (by (try simp only [World.size_alloc, World.size_drew]) <;> omega) (own_ne (by (try simp only [World.size_alloc, World.size_drew]) <;> omega))).trans ?_))
              have h5 := Sl.of_atP (R := intR) (hB2.moveP (q := intR.rd wq) HPR.out (fun _ _ h => h)).sl (fun _ _ h => h)
              have h7 := Sl.of_atP (R := slR intR) (w := w7) hB4.sl (fun cs x hp => by
                rcases hp with hp | ⟨rfl, rfl⟩
                · exact (slR intR).mono x4 hp
                · exact ⟨_, rfl, h5⟩)
              obtain ⟨A7, c7, e7, _⟩ := h7.form
              subst e7
              have HNE := hid (show ∃ b6 o6, A7 = some ⟨b6, o6, none⟩ from by
                have hlen : 0 < (out.take q ++ [g[k]] ++ out.drop q).length := by simp only [List.length_append, List.length_cons, List.length_nil]; omega
                obtain ⟨b6, o6, _, e, _⟩ := h7.at_ hlen
                exact ⟨b6, o6, e⟩)
              obtain ⟨b6, o6, e9⟩ := HNE.out
              subst e9
              clear HNE
              have HB7 := hid h7
              have HX7 := hid (HX9.out.trans x4)
              clear hB1 hB2 hB3 hB4 x1 x2 x3 x4 a1 a2 a3 a4 z4 z5 o4 o5 HPR h5 h7 xq
              go_wp2
              go_roundw
              case rel => exact ⟨k + 1, b6, o6, c7, insK hdI out g[k], by omega, by go_num, by rw [HCNT.out], by rw [HCNT.out]; exact HB7.out, by rw [sortK_step hdI g k hlt, HOUT.out], HX7.out⟩
              case measure => simp [intOf]; omega
        · have hjd1 : decide (0 < q) = false := by simpa using hq0
          have hjd2 : decide ((0 : Int) < (q : Int)) = false := by simp; omega
          have HCN := hid (cntK_eq hdI (v := g[k]) hq HAL.out (fun h => absurd h hq0))
          clear hq0
          go_wp2_with fail
          refine wp_region_ext (by kernel_rfl) (by kernel_rfl) ?_
          repeat (go_big_quiet_step ((fail)))
          refine wpQuiet_nil ?_
          rintro w6 ⟨⟨_, x6⟩, rfl⟩
          clear hjd1 hjd2
          have HCNT := hid (show insK hdI out g[k] = out.take q ++ [g[k]] ++ out.drop q from by
            have := HCN.out
            unfold insK
            rw [this]
            simp)
          obtain ⟨wq, hwq⟩ : ∃ wq, wq = w6 := ⟨_, rfl⟩
          rw [← hwq] at x6 ⊢
          clear hwq
          have xq : Ext w0 wq := hxi.trans x6
          have HBQ := hid (show ∀ W, Ext wq W → W.cell? ⟨b, off + k, none⟩ = some (.slice (some ⟨bg, og, none⟩) g[k].length cap1) from fun W y => HCK.out _ (xq.trans y))
          have hcap := (HSO.out wq xq).cap_
          have HTK := hid ((HSO.out wq xq).take (k := q) hq)
          have HROW := hid (HRW.out wq xq)
          obtain ⟨A2, hA2, HTD⟩ := Sl.tail1 rfl (HSO.out wq xq) q hq
          have HL0 := hid (show ([] : List Int).length + g[k].length ≤ 1099511627776 by simp only [List.length_nil]; omega)
          have HL1 := hid (show ([] : List (List Int)).length + q ≤ 1099511627776 by simp only [List.length_nil]; omega)
          have HL2 := hid (show (out.take q).length + 1 ≤ 1099511627776 by rw [List.length_take]; omega)
          have HL3 := hid (show (out.take q ++ [g[k]]).length + (out.length - q) ≤ 1099511627776 by simp only [List.length_append, List.length_take, List.length_cons, List.length_nil]; omega)
          have bq1 : q ≤ co := by omega
          have bq2 : (q : Int) ≤ (out.length : Int) := by omega
          have bq3 : (q : Int) ≤ (co : Int) := by omega
          have HX9 := hid (HX.out.trans xq)
          clear hcap x6 hxi
          go_wp2_with fail
          go_region_held3 (fun w' => w'.cell? ⟨b, off + k, none⟩ = some (.slice (some ⟨bg, og, none⟩) g[k].length cap1)) (exact HBQ.out _ (by repeat (first | with_reducible exact Ext.refl _ | with_reducible assumption | with_reducible refine Ext.drew ?_ | with_reducible refine Ext.alloc ?_ _ | with_reducible refine Ext.trans ?_ (by with_reducible assumption)))) (first | (have hthird := hB3; refine step_appPS (R := slR intR) (p := (fun cs x => (slR intR).rd wq cs x ∨ (cs = [.slice A5 g[k].length c5] ∧ x = g[k]))) (by decide) elemInts (by decide) one_sl rfl _ _ rfl hB3 rfl rfl (w1 := wq) HTD.out (by repeat (first | with_reducible exact Ext.refl _ | with_reducible assumption | with_reducible refine Ext.drew ?_ | with_reducible refine Ext.alloc ?_ _ | with_reducible refine Ext.trans ?_ (by with_reducible assumption))) (fun _ _ h => .inl h) HL3.out x3.size (w0 := wq) (Nat.le_refl _) x3 ?_; intro v7 w7 hB4 x4 a4) | (have hboth := And.intro hB1 hB2; refine step_appP1 (R := slR intR) (p := (fun cs x => (slR intR).rd wq cs x ∨ (cs = [.slice A5 g[k].length c5] ∧ x = g[k]))) (by decide) elemInts (by decide) rfl _ _ rfl (hB1.moveP (by intro b9 hb9; have q1 := o4 b9 hb9; have q2 := (hB1.lt.2 b9 hb9).1; repeat (first | with_reducible rfl | with_reducible exact heap_new (by (try simp only [World.size_alloc, World.size_drew]) <;> omega) | with_reducible refine heap_drew ?_ | with_reducible refine heap_old (by (try simp only [World.size_alloc, World.size_drew]) <;> omega) ?_ | refine (a1.keep _ (by (try simp only [World.size_alloc, World.size_drew]) <;> omega) (own_ne (by (try simp only [World.size_alloc, World.size_drew]) <;> omega))).trans ?_ | refine (a2.keep _ (by (try simp only [World.size_alloc, World.size_drew]) <;> omega) (own_ne (by (try simp only [World.size_alloc, World.size_drew]) <;> omega))).trans ?_)) (fun _ _ h => .inl h)) rfl _ 1 rfl (c := #[.slice A5 g[k].length c5]) (T := 40) (fr := (0, 0)) (by repeat (first | with_reducible rfl | with_reducible exact heap_new (by (try simp only [World.size_alloc, World.size_drew]) <;> omega) | with_reducible refine heap_drew ?_ | with_reducible refine heap_old (by (try simp only [World.size_alloc, World.size_drew]) <;> omega) ?_ | refine (a1.keep _ (by (try simp only [World.size_alloc, World.size_drew]) <;> omega) (own_ne (by (try simp only [World.size_alloc, World.size_drew]) <;> omega))).trans ?_ | refine (a2.keep _ (by (try simp only [World.size_alloc, World.size_drew]) <;> omega) (own_ne (by (try simp only [World.size_alloc, World.size_drew]) <;> omega))).trans ?_)) (by simp [Value.oneCell']) (y := g[k]) (.inr ⟨rfl, rfl⟩) rfl HL2.out (by (try simp only [World.size_alloc, World.size_drew]) <;> omega) (w0 := wq) (Nat.le_refl _) (by repeat (first | with_reducible exact Ext.refl _ | with_reducible assumption | with_reducible refine Ext.drew ?_ | with_reducible refine Ext.alloc ?_ _ | with_reducible refine Ext.trans ?_ (by with_reducible assumption))) ?_; intro v6 w6 hB3 x3 a3) | (refine step_appPS (R := slR intR) (p := (slR intR).rd wq) (by decide) elemInts (by decide) one_sl rfl _ _ rfl (Bld.empP (base := wq.heap.size) (by (try simp only [World.size_alloc, World.size_drew]) <;> omega) (by repeat (first | with_reducible rfl | with_reducible exact heap_new (by (try simp only [World.size_alloc, World.size_drew]) <;> omega) | with_reducible refine heap_drew ?_ | with_reducible refine heap_old (by (try simp only [World.size_alloc, World.size_drew]) <;> omega) ?_ | refine (a1.keep _ (by (try simp only [World.size_alloc, World.size_drew]) <;> omega) (own_ne (by (try simp only [World.size_alloc, World.size_drew]) <;> omega))).trans ?_ | refine (a2.keep _ (by (try simp only [World.size_alloc, World.size_drew]) <;> omega) (own_ne (by (try simp only [World.size_alloc, World.size_drew]) <;> omega))).trans ?_))) rfl rfl (w1 := wq) HTK.out (by repeat (first | with_reducible exact Ext.refl _ | with_reducible assumption | with_reducible refine Ext.drew ?_ | with_reducible refine Ext.alloc ?_ _ | with_reducible refine Ext.trans ?_ (by with_reducible assumption))) (fun _ _ h => h) HL1.out (by (try simp only [World.size_alloc, World.size_drew]) <;> omega) (w0 := wq) (Nat.le_refl _) (by repeat (first | with_reducible exact Ext.refl _ | with_reducible assumption | with_reducible refine Ext.drew ?_ | with_reducible refine Ext.alloc ?_ _ | with_reducible refine Ext.trans ?_ (by with_reducible assumption))) ?_; intro v4 w4 hB1 x1 a1; rw [List.nil_append] at hB1; have z4 := a1.size; have o4 := a1.own0; (try simp only [World.size_alloc, World.size_drew] at z4 o4)) | (refine step_appPS (R := intR) (p := intR.rd wq) (by decide) elemInt (by decide) one_in rfl _ _ rfl (Bld.empP (base := wq.heap.size) (by (try simp only [World.size_alloc, World.size_drew]) <;> omega) (by repeat (first | with_reducible rfl | with_reducible exact heap_new (by (try simp only [World.size_alloc, World.size_drew]) <;> omega) | with_reducible refine heap_drew ?_ | with_reducible refine heap_old (by (try simp only [World.size_alloc, World.size_drew]) <;> omega) ?_ | refine (a1.keep _ (by (try simp only [World.size_alloc, World.size_drew]) <;> omega) (own_ne (by (try simp only [World.size_alloc, World.size_drew]) <;> omega))).trans ?_ | refine (a2.keep _ (by (try simp only [World.size_alloc, World.size_drew]) <;> omega) (own_ne (by (try simp only [World.size_alloc, World.size_drew]) <;> omega))).trans ?_))) rfl rfl (w1 := wq) HROW.out (by repeat (first | with_reducible exact Ext.refl _ | with_reducible assumption | with_reducible refine Ext.drew ?_ | with_reducible refine Ext.alloc ?_ _ | with_reducible refine Ext.trans ?_ (by with_reducible assumption))) (fun _ _ h => h) HL0.out (by (try simp only [World.size_alloc, World.size_drew]) <;> omega) (w0 := wq) (Nat.le_refl _) (by repeat (first | with_reducible exact Ext.refl _ | with_reducible assumption | with_reducible refine Ext.drew ?_ | with_reducible refine Ext.alloc ?_ _ | with_reducible refine Ext.trans ?_ (by with_reducible assumption))) ?_; intro v5 w5 hB2 x2 a2; rw [List.nil_append] at hB2; have z5 := a2.size; have o5 := a2.own0; (try simp only [World.size_alloc, World.size_drew] at z5 o5); obtain ⟨A5, c5, e5, _⟩ := hB2.sl.form; subst e5))
          all_goals
            have HPR := hid (show ∀ b, (Value.slice A5 g[k].length c5).ownBlock = some b → w7.heap[b]? = w5.heap[b]? from by
              intro b hb
              have q1 := o5 b hb
              have q2 := (hB2.lt.2 b hb).1
              have z3 := a3.size
              (try simp only [World.size_alloc, World.size_drew] at z3)
              have n4 : v4.ownBlock ≠ some b := by
                intro h9
                have r1 := o4 b h9
                have r2 := (hB1.lt.2 b h9).1
                omega
              have n6 : v6.ownBlock ≠ some b := by
                intro h9
                rcases a3.own b h9 with h9 | h9
                · exact n4 h9
                · (try simp only [World.size_alloc, World.size_drew] at h9)
                  omega
              refine (a4.keep b (by omega) n6).trans ?_
              refine (a3.keep b (by (try simp only [World.size_alloc, World.size_drew]) <;> omega) n4).trans ?_
              repeat (first | with_reducible rfl | with_reducible exact heap_new (by (try simp only [World.size_alloc, World.size_drew]) <;> omega) | with_reducible refine heap_drew ?_ | with_reducible refine heap_old (by (try simp only [World.size_alloc, World.size_drew]) <;> omega) ?_ | refine (a1.keep _ (by (try simp only [World.size_alloc, World.size_drew]) <;> omega) (own_ne (by (try simp only [World.size_alloc, World.size_drew]) <;> omega))).trans ?_ | refine (a2.keep _ (by (try simp only [World.size_alloc, World.size_drew]) <;> omega) (own_ne (by (try simp only [World.size_alloc, World.size_drew]) <;> omega))).trans ?_))
            have h5 := Sl.of_atP (R := intR) (hB2.moveP (q := intR.rd wq) HPR.out (fun _ _ h => h)).sl (fun _ _ h => h)
            have h7 := Sl.of_atP (R := slR intR) (w := w7) hB4.sl (fun cs x hp => by
              rcases hp with hp | ⟨rfl, rfl⟩
              · exact (slR intR).mono x4 hp
              · exact ⟨_, rfl, h5⟩)
            obtain ⟨A7, c7, e7, _⟩ := h7.form
            subst e7
            have HNE := hid (show ∃ b6 o6, A7 = some ⟨b6, o6, none⟩ from by
              have hlen : 0 < (out.take q ++ [g[k]] ++ out.drop q).length := by simp only [List.length_append, List.length_cons, List.length_nil]; omega
              obtain ⟨b6, o6, _, e, _⟩ := h7.at_ hlen
              exact ⟨b6, o6, e⟩)
            obtain ⟨b6, o6, e9⟩ := HNE.out
            subst e9
            clear HNE
            have HB7 := hid h7
            have HX7 := hid (HX9.out.trans x4)
            clear hB1 hB2 hB3 hB4 x1 x2 x3 x4 a1 a2 a3 a4 z4 z5 o4 o5 HPR h5 h7 xq
            go_wp2
            go_roundw
            case rel => exact ⟨k + 1, b6, o6, c7, insK hdI out g[k], by omega, by go_num, by rw [HCNT.out], by rw [HCNT.out]; exact HB7.out, by rw [sortK_step hdI g k hlt, HOUT.out], HX7.out⟩
            case measure => simp [intOf]; omega
    · have HFIN := hid (show sortK hdI g = out by rw [← HOUT.out, List.take_of_length_le (by omega)])
      have HB9 := hid hB
      clear hB
      go_wp2
      go_ret
      exact ⟨_, rfl, by rw [HFIN.out]; exact HB9.out, hx⟩

end Go.Proofs.Ytfcbapaojoecgab
