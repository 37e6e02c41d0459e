/-
  WALKS: ParseEntities (the reference's).
-/
import Derived.Test.YtfieimmlcopbhaaDoorPEi
namespace Go.Proofs.YtfieimmlcopbhaaDoor
open Go.RowKit

theorem Blk.putAt {w : World} {g : Nat} {e : TypeId} {cs : List Value} (h : Blk w g e cs) (i : Nat) (hi : i < cs.length) (u : Value) : Blk (w.setCell ⟨g, i, none⟩ u) g e (cs.set i u) := by
  have hcs : cs = cs.take i ++ cs[i] :: cs.drop (i + 1) := by rw [← List.drop_eq_getElem_cons hi, List.take_append_drop]
  have hl : (cs.take i).length = i := by rw [List.length_take]; omega
  have h2 := h
  rw [hcs] at h2
  have h9 := Blk.store h2 hl u
  have e : cs.set i u = (cs.take i ++ [u]) ++ cs.drop (i + 1) := by rw [List.set_eq_take_append_cons_drop, if_pos hi]; simp
  rw [e]; exact h9
theorem str_emp {a : ByteArray} (h : a = ⟨#[]⟩) : a.toList.isEmpty = true ∧ a.toList = [] := by
  rw [h, Go.Lib.toList_data]; exact ⟨rfl, rfl⟩
theorem str_full {a : ByteArray} (h : ¬ a = ⟨#[]⟩) : a.toList.isEmpty = false ∧ ¬ a.toList = [] := by
  have h2 : ¬ a.toList = [] := fun e => h (by
    rw [← bs_mk a, ← Go.Lib.toList_data, e]; rfl)
  refine ⟨?_, h2⟩
  cases hl : a.toList with
  | nil => exact absurd hl h2
  | cons x xs => rfl
theorem eS_ms (ps : List ByteArray) (k : Nat) (hk : k ≤ 9) : msEnts ((ps.take k).map eS) ≤ 1048576 := by
  have h : ∀ l : List ByteArray, msEnts (l.map eS) ≤ 10 * l.length := fun l => by
    induction l with
    | nil => simp [msEnts, sumMem]
    | cons p l ih =>
      unfold msEnts sumMem at ih ⊢
      simp only [List.map_cons, List.sum_cons, List.length_cons] at ih ⊢
      have : (eS p).members.length ≤ 9 := by unfold eS; rw [List.length_map, List.length_take]; omega
      omega
  have h9 := h (ps.take k)
  rw [List.length_take] at h9
  omega
theorem pE_no {s : ByteArray} (h : s = ⟨#[]⟩) : pE s = ([], false) := ans_no fun x q1 q2 => by
  have hs : ¬ s = sNone := by rw [h]; decide
  have h9 := (pE_A hs x q1 q2).2.1 ⟨#[]⟩ (by rw [h, pE_emp]; exact List.mem_singleton.2 rfl)
  rw [eI_emp] at h9
  cases h9
theorem take_nine {α : Type} {l : List α} {j : Nat} (h : j ≤ l.length) (h9 : j ≤ 9) (h2 : ¬ (j < l.length ∧ j ≤ 8)) : l.take j = l.take 9 := by
  by_cases hj : j = 9
  · rw [hj]
  · have : j = l.length := by omega
    rw [List.take_of_length_le (by omega), List.take_of_length_le (by omega)]
theorem size_of_keep {a b : World} {n : Nat} (h : ∀ i, i < n → b.heap[i]? = a.heap[i]?) (hn : n ≤ a.heap.size) : n ≤ b.heap.size := by
  rcases Nat.eq_zero_or_pos n with rfl | hp
  · exact Nat.zero_le _
  · have h1 := h (n - 1) (by omega)
    rw [Array.getElem?_eq_getElem (show n - 1 < a.heap.size by omega)] at h1
    have := block_lt h1
    omega
theorem eS_of {p h0 hz : ByteArray} {m : Nat} (h1 : (pcs 58 p)[0]? = some h0) (h2 : (pcs 58 p)[m]? = some hz) (hm : (pcs 58 p).length = m + 1) : eS p = ⟨(pI h0).1, ((pcs 44 hz).take 9).map fun s => (pI s).1⟩ := by
  unfold eS
  have e1 : (pcs 58 p).headD ⟨#[]⟩ = h0 := by
    rw [List.headD_eq_head?_getD, List.head?_eq_getElem?, h1]; rfl
  have e2 : (pcs 58 p).getLastD ⟨#[]⟩ = hz := by
    rw [List.getLastD_eq_getLast?, List.getLast?_eq_getElem?, hm, show m + 1 - 1 = m by omega, h2]; rfl
  rw [e1, e2]

set_option maxHeartbeats 4000000 in
set_option maxRecDepth 20000 in
theorem spec_ParseEntities (s : ByteArray) (w : World) (hs : s.size ≤ 1048576) :
    Calls Tryd.prog 17 #[.string s] w (EntsOut w · · (pE s)) := by
  have xa : Ext w (w.alloc (.cells #[] 70)) := (Ext.refl w).alloc _
  have hB0 : Bld entityO (w.alloc (.cells #[] 70)) w.heap.size 70 (.slice (some ⟨w.heap.size, 0, none⟩) 0 0) ([] : List Entity) [] := Bld.lit w (Nat.le_refl _) _
  go_enter Tryd.func17, Tryd.ntmps17
  by_cases hE : s = sNone
  · have hq := lit_yes hE
    have HP := hid (show pE s = ([], true) by rw [hE]; exact pE_none)
    clear hE
    go_wp2
    refine bodyPost_ret (v := .tuple #[.slice (some ⟨w.heap.size, 0, none⟩) 0 0, .bool true]) (by simp [results, Tryd.results17, go_sem]) rfl ?_
    exact ⟨_, [], by rw [HP.out], by rw [HP.out]; exact .inl ⟨rfl, rfl, _, _, rfl, Nat.zero_le _⟩, NewF.nil _, xa⟩
  · have hq := lit_no hE
    have HE := hid hE
    clear hE
    go_wp2_with fail
    refine (spec_l2CutN s 32 32 _ (by rfl) (by omega)).mono ?_
    rintro e w1 ⟨vs, FS, rfl, oS, nS, x1⟩
    have HPS := hid (fun p (h : p ∈ pcs 32 s) => Nat.le_trans (pcs_size h) hs)
    have hpl := Nat.le_trans (pcs_len 32 s) (Nat.add_le_add_right hs 1)
    have HA := hid (pE_A HE.out)
    obtain ⟨ps, hps⟩ : ∃ ps, ps = pcs 32 s := ⟨_, rfl⟩
    rw [← hps] at oS HPS hpl HA
    clear hps
    obtain ⟨AS, cS, rfl, _⟩ := oS.form
    have hB1 := hB0.ext x1
    have xw1 := xa.trans x1
    have HNS := hid (show ∀ b ∈ FS, (Value.slice (some ⟨w.heap.size, 0, none⟩) 0 0).ownBlock ≠ some b from fun b hb e => by
      have h9 := nS.2 b hb
      rw [World.size_alloc] at h9
      have e2 : (Value.slice (some ⟨w.heap.size, 0, none⟩) 0 0).ownBlock = some w.heap.size := rfl
      rw [e2] at e; injection e with e; omega)
    clear xa hB0 x1 nS
    go_wp2
    go_loopw [4, 6] (fun l i wr => ∃ (k : Nat) (F : List Nat), k ≤ ps.length ∧ k ≤ 9 ∧ i = .int .i64 k ∧ Bld entityO wr w.heap.size 70 l ((ps.take k).map eS) F ∧ OwnSl strO wr (.slice AS ps.length cS) ps FS ∧ Hid (∀ b ∈ FS, l.ownBlock ≠ some b) ∧ Ext w wr) (fun _ i _ => ps.length - (intOf i).toNat)
    case atStart => exact ⟨0, [], Nat.zero_le _, Nat.zero_le _, rfl, hB1, oS, HNS, xw1⟩
    case round =>
      clear hB1 oS HNS xw1
      obtain ⟨k, F, hk, hk9, rfl, hB, oS, HNO, hx⟩ := hrel
      by_cases hlt2 : k < ps.length ∧ k ≤ 8
      · obtain ⟨hlt, hk8⟩ := hlt2
        obtain ⟨b0, off, e1, hz9, hc⟩ := oS.sl.str hlt
        subst e1
        clear hz9
        obtain ⟨p, hp⟩ : ∃ p, p = ps[k] := ⟨_, rfl⟩
        have hS : p.size ≤ 1048576 := by rw [hp]; exact HPS.out _ (List.getElem_mem hlt)
        rw [← hp] at hc
        have HTK := hid (show (ps.take (k + 1)).map eS = (ps.take k).map eS ++ [eS p] by rw [List.take_succ_eq_append_getElem hlt, List.map_append, List.map_singleton, ← hp])
        clear hp
        obtain ⟨w0, hw0⟩ : ∃ w0, w0 = wr := ⟨_, rfl⟩
        go_wp2_with fail
        rw [← hw0] at hB oS hx ⊢
        clear hw0 hc
        refine (spec_l2CutN p 58 58 _ (by rfl) (by omega)).mono ?_
        rintro e w2 ⟨v2, F2, rfl, o2, n2, x2⟩
        obtain ⟨m, hm⟩ : ∃ m, (pcs 58 p).length = m + 1 := ⟨(pcs 58 p).length - 1, by have := pcs_pos 58 p; omega⟩
        obtain ⟨A2, c2, rfl, hc2m⟩ := o2.form
        obtain ⟨g2, off2, e2, hz0, hh0⟩ := o2.sl.str (i := 0) (by omega)
        subst e2
        obtain ⟨g2', off2', e2, hzz, hhz⟩ := o2.sl.str (i := m) (by omega)
        injection e2 with e2
        injection e2 with ea eb _
        subst ea; subst eb
        rw [Nat.add_zero] at hh0
        obtain ⟨h0, hh0e⟩ : ∃ t, t = (pcs 58 p)[0]'(by omega) := ⟨_, rfl⟩
        obtain ⟨hz, hhze⟩ : ∃ t, t = (pcs 58 p)[m]'(by omega) := ⟨_, rfl⟩
        have s0 : h0.size ≤ p.size := by rw [hh0e]; exact pcs_size (List.getElem_mem _)
        have sz : hz.size ≤ p.size := by rw [hhze]; exact pcs_size (List.getElem_mem _)
        have HES := hid (eS_of (p := p) (h0 := h0) (hz := hz) (m := m) (by rw [hh0e]; exact List.getElem?_eq_getElem _) (by rw [hhze]; exact List.getElem?_eq_getElem _) hm)
        rw [← hh0e] at hh0
        rw [← hhze] at hhz
        clear hh0e hhze hz0 hzz o2 n2
        rw [hm] at hc2m ⊢
        clear hm
        go_wp2_with fail
        refine (spec_ParseInt h0 _ (by omega)).mono ?_
        rintro e w3 ⟨rfl, x3⟩
        have hI := pI_64 h0
        obtain ⟨n0, hn0⟩ : ∃ n, n = (pI h0).1 := ⟨_, rfl⟩
        rw [← hn0] at HES hI ⊢
        clear hn0
        have xx3 := x2.trans x3
        have bE3 := Blk.new w3 70 #[.int .i64 n0, .slice none 0 0]
        have xE3 : Ext w3 (w3.alloc (.cells #[.int .i64 n0, .slice none 0 0] 70)) := (Ext.refl w3).alloc _
        have hhz3 := (x3.trans xE3).cell hhz
        clear hh0 hhz x2 x3
        go_wp2_with fail
        refine (spec_l2CutN hz 44 44 _ (by rfl) (by omega)).mono ?_
        rintro e w4 ⟨v4, F4, rfl, o4, n4, x4⟩
        obtain ⟨ms, hms⟩ : ∃ ms, ms = pcs 44 hz := ⟨_, rfl⟩
        have HMS := hid (fun q (h : q ∈ pcs 44 hz) => Nat.le_trans (pcs_size h) (Nat.le_trans sz hS))
        have hml := Nat.le_trans (pcs_len 44 hz) (Nat.add_le_add_right (Nat.le_trans sz hS) 1)
        rw [← hms] at o4 HES HMS hml
        clear hms hhz3
        obtain ⟨A4, c4, rfl, _⟩ := o4.form
        have bE4 := bE3.ext x4
        have hg3 : w0.heap.size ≤ w3.heap.size := xx3.size
        have hg4 : w3.heap.size < w4.heap.size := block_lt bE4
        have HG4 := hid (show w3.heap.size ∉ F4 from fun h => by have := n4.2 _ h; rw [World.size_alloc] at this; omega)
        have HX4 := hid (xx3.trans (xE3.trans x4))
        have hxw4 := hx.trans HX4.out
        clear bE3 xE3 x4 xx3 n4
        obtain ⟨wo, hwo⟩ : ∃ wo : World, wo = w4 := ⟨_, rfl⟩
        go_wp2
        go_loopw [12] (fun i w5 => ∃ (j : Nat) (v : Value), j ≤ ms.length ∧ j ≤ 9 ∧ i = .int .i64 j ∧ Blk w5 w3.heap.size 70 [.int .i64 n0, v] ∧ Bld intO w5 wo.heap.size 3 v ((ms.take j).map fun s => (pI s).1) [] ∧ Hid (wo.heap.size ≤ w5.heap.size ∧ ∀ b, b < wo.heap.size → b ≠ w3.heap.size → w5.heap[b]? = wo.heap[b]?) ∧ Ext w w5) (fun i _ => ms.length - (intOf i).toNat)
        case atStart => exact ⟨0, _, Nat.zero_le _, Nat.zero_le _, rfl, bE4, by simpa using Bld.nil _ wo.heap.size _, hid (by rw [hwo]; exact ⟨Nat.le_refl _, fun _ _ _ => rfl⟩), hxw4⟩
        case round =>
          clear bE4 hxw4
          obtain ⟨j, v, hj, hj9, rfl, bE, hM, HK, hxw⟩ := hrel
          rw [← hwo] at o4 hg4 HX4
          clear hwo
          have o5 := o4.keep (fun b hb => HK.out.2 b (o4.lt b hb) (fun e => HG4.out (e ▸ hb)))
          by_cases hlt3 : j < ms.length ∧ j ≤ 8
          · obtain ⟨hjl, hj8⟩ := hlt3
            obtain ⟨b4, off4, e4, hz4, hc4⟩ := o5.sl.str hjl
            subst e4
            clear hz4 o5
            obtain ⟨q, hqe⟩ : ∃ q, q = ms[j] := ⟨_, rfl⟩
            have hQ : q.size ≤ 1048576 := by rw [hqe]; exact HMS.out _ (List.getElem_mem hjl)
            have HTM := hid (show (ms.take (j + 1)).map (fun s => (pI s).1) = (ms.take j).map (fun s => (pI s).1) ++ [(pI q).1] by rw [List.take_succ_eq_append_getElem hjl, List.map_append, List.map_singleton, ← hqe])
            have HJ1 := hid (show ((ms.take j).map (fun s => (pI s).1) ++ [(pI q).1]).length = j + 1 by rw [List.length_append, List.length_map, List.length_take]; simp; omega)
            have hjm : ((ms.take j).map (fun s => (pI s).1)).length ≤ 1048600 := by rw [List.length_map, List.length_take]; omega
            rw [← hqe] at hc4
            clear hqe
            go_wp2_with fail
            refine (spec_ParseInt q _ (by omega)).mono ?_
            rintro e w6 ⟨rfl, x6⟩
            have hI2 := pI_64 q
            have HB6 := hid (hM.ext x6)
            have bE6 := bE.ext x6
            have HBE := hid bE6
            have hxw6 := hxw.trans x6
            have HX6 := hid x6
            have HXW := hid hxw6
            have hbs := Nat.le_trans HK.out.1 x6.size
            clear hM bE hxw x6 hxw6 hc4
            obtain ⟨cE, fE⟩ := bE6.cells
            clear bE6
            go_wp2_with (at_builtin; refine wpList_app1k elemInt (by decide) rfl _ _ rfl HB6.out rfl w6.heap.size 1 rfl rfl (one_int _) (own_int _ _ hI2) fresh_nil (Nat.le_trans (Nat.add_le_add_right hjm 1) (by decide)) (by decide) hbs ?_; intro v9 w9 hB9 hE9 hK9; obtain ⟨F88, o88, n88, m88⟩ := hB9.done; obtain ⟨A99, c99, e99, m99⟩ := o88.form; rw [HJ1.out] at e99; subst e99; clear o88 n88 m88 m99; have HK9 := hid (show ∀ b, b < wo.heap.size → w9.heap[b]? = w6.heap[b]? from fun b hb => (hK9 [b] (fun c hc => by rw [List.mem_singleton] at hc; rw [hc]; exact Nat.lt_of_lt_of_le hb hbs) (fun c hc e => by rw [List.mem_singleton] at hc; have h8 := (HB6.out.lt.2 c e).2; omega)).1 b (by simp)); have b9 := HBE.out.keep (HK9.out _ hg4); have HXE := hid (hE9 w (Nat.le_trans (Nat.le_trans hx.size hg3) (Nat.le_of_lt hg4)) HXW.out); have HB9 := hid hB9; clear cE fE hK9 hE9 hB9; obtain ⟨cE, fE⟩ := b9.cells)
            go_roundw
            case rel =>
              refine ⟨j + 1, _, by omega, by omega, by go_num, b9.putAt 1 (by show 1 < 2; decide) _, ?_, hid ⟨?_, fun b hb hne => ?_⟩, HXE.out.setCell (Nat.le_trans hx.size hg3) _⟩
              · rw [HTM.out]
                exact HB9.out.keep fun b hb _ => keep_setCell (p := ⟨w3.heap.size, 1, none⟩) (fun e => by simp only at e; omega)
              · rw [World.size_setCell]
                exact size_of_keep HK9.out hbs
              · rw [keep_setCell (p := ⟨w3.heap.size, 1, none⟩) hne, HK9.out b hb, HX6.out.block (Nat.lt_of_lt_of_le hb HK.out.1), HK.out.2 b hb hne]
            case measure => simp [intOf]; omega
          · have htk := take_nine hj hj9 hlt3
            rw [htk] at hM
            obtain ⟨ml, hml9⟩ : ∃ l, l = (ms.take 9).map fun s => (pI s).1 := ⟨_, rfl⟩
            rw [← hml9] at hM HES
            clear hml9 htk o5
            obtain ⟨Gm, oM, nM, hbM⟩ := hM.done
            obtain ⟨A5, c5, e5, _⟩ := oM.form
            subst e5
            have hkeep : ∀ b, b < w0.heap.size → wr.heap[b]? = w0.heap[b]? := fun b hb => (HK.out.2 b (Nat.lt_of_lt_of_le hb (Nat.le_trans hg3 (Nat.le_of_lt hg4))) (by omega)).trans (HX4.out.block hb)
            have HB5 := hid (hB.keep (fun b _ hb => hkeep b hb))
            have HSW := hid (oS.keep (fun b hb => hkeep b (oS.lt b hb)))
            have HFR := hid (hB.fresh (G := Gm) ⟨nM, fun b hb => by have := hbM b hb; omega⟩ hx.size)
            have hll : ((ps.take k).map eS).length ≤ 1048600 := by rw [List.length_map, List.length_take]; omega
            have hbs5 := hxw.size
            have HOM := hid oM
            have HXW := hid hxw
            obtain ⟨cE, fE⟩ := bE.cells
            clear hkeep hB oS hM oM hbM nM hxw hx bE o4
            by_cases hjl : j < ms.length
            all_goals
              go_wp2_with (at_builtin; refine wpList_app1k (R := entityO) elemEnt (by decide) rfl _ _ rfl HB5.out rfl wr.heap.size 1 rfl rfl (one_ent _ _ _ _) (y := ⟨n0, ml⟩) (G := Gm) ⟨_, rfl, hI, HOM.out⟩ HFR.out (Nat.le_trans (Nat.add_le_add_right hll 1) (by decide)) (by decide) hbs5 ?_; intro v9 w9 hB9 hE9 hK9; have hkS := hK9 FS (fun b hb => HSW.out.lt b hb) HNO.out; have o8 := HSW.out.keep hkS.1; have HNO9 := hid hkS.2; have HXE := hid (hE9 w (Nat.le_refl _) HXW.out); clear hkS hE9 hK9 cE fE)
              go_roundw
              case rel => exact ⟨k + 1, F ++ Gm, by omega, by omega, by go_num, by rw [HTK.out, HES.out]; exact hB9, o8, HNO9, HXE.out⟩
              case measure => simp [intOf]; omega
      · have HAE := hid (show ∀ x, areEnts x = true → fmtEnts x = s → x = (ps.take k).map eS from fun x q1 q2 => by
          obtain ⟨_, _, q3, q4⟩ := HA.out x q1 q2
          rw [List.take_of_length_le (by omega)]; exact q3)
        have HMB := hid (eS_ms ps k hk9)
        obtain ⟨F8, oB, nB, hbF⟩ := hB.done
        obtain ⟨A8, c8, e8, _⟩ := oB.form
        subst e8
        have nF : NewF w F8 := ⟨nB, hbF⟩
        obtain ⟨ol, hol⟩ : ∃ l, l = (ps.take k).map eS := ⟨_, rfl⟩
        rw [← hol] at oB HAE HMB ⊢
        clear hol hbF nB hB oS
        have hcase : (k < ps.length ∧ k = 9) ∨ ¬ k < ps.length := by omega
        clear hlt2
        by_cases hemp : s = ⟨#[]⟩
        · obtain ⟨q1, q2⟩ := str_emp hemp
          have HP := hid (pE_no hemp)
          clear hemp
          rcases hcase with ⟨hlt, rfl⟩ | hlt
          all_goals
            go_wp2
            refine bodyPost_ret (v := .tuple #[.slice (some ⟨wr.heap.size, 0, none⟩) 0 0, .bool false]) (by simp [results, Tryd.results17, go_sem]) rfl ?_
            exact ⟨_, [], by rw [HP.out], by rw [HP.out]; exact .inl ⟨rfl, rfl, _, _, rfl, Nat.zero_le _⟩, NewF.nil _, hx.alloc _⟩
        · obtain ⟨q1, q2⟩ := str_full hemp
          have HNE := hid hemp
          clear hemp
          rcases hcase with ⟨hlt, rfl⟩ | hlt
          all_goals
            go_wp2_with fail
            refine (spec_FormatEntities _ ol _ oB.sl HMB.out).mono ?_
            rintro e w9 ⟨rfl, y9⟩
            have oB9 := oB.ext y9
            have xw9 := hx.trans y9
            clear oB hx y9
            by_cases hq9 : fmtEnts ol = s
            · have hq3 := str_eq hq9
              have hq4 : (fmtEnts ol).toList = s.toList := by rw [hq9]
              have HPP := hid (show pE s = (ol, true) from ans_yes HAE.out (fmtEnts_ok hq9 HNE.out) hq9)
              clear hq9
              go_wp2
              refine bodyPost_ret (v := .tuple #[.slice A8 ol.length c8, .bool true]) (by simp [results, Tryd.results17, go_sem]) rfl ?_
              exact ⟨_, F8, by rw [HPP.out], by rw [HPP.out]; exact oB9, nF, xw9⟩
            · have hq3 := str_ne hq9
              have HPP := hid (show pE s = ([], false) from ans_end HAE.out hq9)
              clear hq9
              go_wp2
              refine bodyPost_ret (v := .tuple #[.slice (some ⟨w9.heap.size, 0, none⟩) 0 0, .bool false]) (by simp [results, Tryd.results17, go_sem]) rfl ?_
              exact ⟨_, [], by rw [HPP.out], by rw [HPP.out]; exact .inl ⟨rfl, rfl, _, _, rfl, Nat.zero_le _⟩, NewF.nil _, xw9.alloc _⟩
end Go.Proofs.YtfieimmlcopbhaaDoor
