/-
  WALKS: ParseEntities (the program's).
-/
import Derived.Test.YtfieimmlcopbhaaDoorPEl
namespace Go.Proofs.YtfieimmlcopbhaaDoor
open Go.RowKit

theorem lit_no {s : ByteArray} {l : List UInt8} (h : ¬ s = ⟨l.toArray⟩) : (s.toList == l) = false := by
  rw [beq_eq_false_iff_ne]
  intro e
  refine h ?_
  rw [← bs_mk s, ← Go.Lib.toList_data, e]; rfl
theorem lit_yes {s : ByteArray} {l : List UInt8} (h : s = ⟨l.toArray⟩) : (s.toList == l) = true := by
  rw [h, Go.Lib.toList_data]; simp
theorem cut_le (s : ByteArray) (c : UInt8) : (bs (Go.Lib.cut s.data.toList [c]).1).size ≤ s.size ∧ (bs (Go.Lib.cut s.data.toList [c]).2.1).size ≤ s.size := by
  have e : s.data.toList.length = s.size := Array.length_toList
  rw [bs_size, bs_size]
  rcases cut_of c s.data.toList with ⟨a, r, ha, he⟩ | h
  · have h9 := congrArg List.length he
    rw [List.length_append, List.length_cons] at h9
    rw [he, libcut_hit ha]
    exact ⟨by show a.length ≤ _; omega, by show r.length ≤ _; omega⟩
  · rw [libcut_none h]
    exact ⟨by show s.data.toList.length ≤ _; omega, Nat.zero_le _⟩
/-- what ParseEntities hands back -/
def EntsOut (w : World) (e : Ending) (w2 : World) (r : List Entity × Bool) : Prop := ∃ v F, e = .returned (.tuple #[v, .bool r.2]) ∧ OwnSl entityO w2 v r.1 F ∧ NewF w F ∧ Ext w w2
theorem elemEnt : ElemT Tryd.prog 41 70 entityO.n 32 := by
  obtain ⟨i, h1, h2, h3, h4⟩ := info_parts infoEnt
  exact ⟨Tryd.underlying41, i, _, h1, h2, h3, h4, rfl⟩
theorem one_ent (x : Int) (A : Option Addr) (n c : Nat) : ∀ u ∈ (#[.int .i64 x, .slice A n c] : Array Value).toList, u.oneCell' = true := by simp [Value.oneCell']
theorem pE_emp : (pcs 32 (⟨#[]⟩ : ByteArray)) = [⟨#[]⟩] := rfl
theorem eI_emp : (eI ⟨#[]⟩).2 = false := by
  have e : eI ⟨#[]⟩ = (⟨(pI (bs [])).1, (pIs (pcs 44 (bs []))).1⟩, (pI (bs [])).2 && (pIs (pcs 44 (bs []))).2) := rfl
  rw [e, pI_emp]; rfl

set_option maxHeartbeats 2000000 in
set_option maxRecDepth 20000 in
theorem impl_ParseEntities (s : ByteArray) (w : World) (hs : s.size ≤ 1048576) (N : Env w) :
    Calls Tryd.prog 18 #[.string s] w (EntsOut w · · (pE s)) := by
  go_enter Tryd.func18, Tryd.ntmps18
  by_cases hE : s = sNone
  · have hq := lit_yes hE
    have HP := hid (show pE s = ([], true) by rw [hE]; exact pE_none)
    clear hE
    go_wp2
    refine bodyPost_ret (v := .tuple #[.slice none 0 0, .bool true]) (by simp [results, Tryd.results18, go_sem]) rfl ?_
    exact ⟨_, [], by rw [HP.out], by rw [HP.out]; exact OwnSl.nilS _ _, NewF.nil _, Ext.refl _⟩
  · have hq := lit_no hE
    have HE := hid hE
    clear hE
    go_wp2_with fail
    refine (strings_Split_c s 32 _ (by omega) N.M).mono ?_
    rintro e w1 ⟨vs, FS, rfl, oS, nS, x1⟩
    have HPS := hid (fun p (h : p ∈ pcs 32 s) => Nat.le_trans (pcs_size h) hs)
    have hpl := Nat.le_trans (pcs_len 32 s) (Nat.add_le_add_right hs 1)
    have HA := hid (pE_A HE.out)
    have HSM := hid (Nat.le_trans (pcs_sum 32 s) hs)
    have HQ := hid (show s = ⟨#[]⟩ → pcs 32 s = [⟨#[]⟩] from fun e => by rw [e]; rfl)
    obtain ⟨ps, hps⟩ : ∃ ps, ps = pcs 32 s := ⟨_, rfl⟩
    rw [← hps] at oS HPS hpl HA HSM HQ
    clear hps nS
    obtain ⟨AS, cS, rfl, _⟩ := oS.form
    have hSl := oS.sl
    clear oS
    go_wp2
    go_loopw [4, 19] (fun l i wr => ∃ (k : Nat) (F : List Nat), k ≤ ps.length ∧ i = .int .i64 k ∧ Bld entityO wr w1.heap.size 70 l ((ps.take k).map fun p => (eI p).1) F ∧ Hid (∀ p ∈ ps.take k, (eI p).2 = true) ∧ Ext w1 wr) (fun _ i _ => ps.length - (intOf i).toNat)
    case atStart => exact ⟨0, [], Nat.zero_le _, rfl, by simpa using Bld.nil w1 w1.heap.size _, hid (by simp), Ext.refl _⟩
    case round =>
      obtain ⟨k, F, hk, rfl, hB, hall, hx⟩ := hrel
      by_cases hlt : k < ps.length
      · obtain ⟨b0, off, e1, hz9, hc⟩ := (hSl.mono hx).str hlt
        subst e1
        clear hz9
        obtain ⟨p, hp⟩ : ∃ p, p = ps[k] := ⟨_, rfl⟩
        have hS : p.size ≤ 1048576 := by rw [hp]; exact HPS.out _ (List.getElem_mem hlt)
        rw [← hp] at hc
        have HPK := hid hp
        have HM := hid (show p ∈ ps by rw [hp]; exact List.getElem_mem hlt)
        clear hp
        have hcl := cut_le p 58
        have HEI := hid (show eI p = (⟨(pI (bs (Go.Lib.cut p.data.toList [58]).1)).1, (pIs (pcs 44 (bs (Go.Lib.cut p.data.toList [58]).2.1))).1⟩, (pI (bs (Go.Lib.cut p.data.toList [58]).1)).2 && (pIs (pcs 44 (bs (Go.Lib.cut p.data.toList [58]).2.1))).2) from rfl)
        go_wp2_with fail
        refine (strings_Cut_c p 58 _ (by omega) (N.M.mono (x1.trans hx))).mono ?_
        rintro e w2 ⟨rfl, x2⟩
        obtain ⟨nm, hnm⟩ : ∃ t, t = bs (Go.Lib.cut p.data.toList [58]).1 := ⟨_, rfl⟩
        obtain ⟨rs, hrs⟩ : ∃ t, t = bs (Go.Lib.cut p.data.toList [58]).2.1 := ⟨_, rfl⟩
        rw [← hnm, ← hrs] at hcl HEI ⊢
        obtain ⟨hz1, hz2⟩ := hcl
        clear hnm hrs
        have xx2 := hx.trans x2
        have hB2 := hB.ext x2
        clear hB x2 hc
        go_wp2_with fail
        refine (impl_ParseInt nm _ (by omega) (N.mono (x1.trans xx2))).mono ?_
        rintro e w3 ⟨rfl, x3⟩
        have xx3 := xx2.trans x3
        have hB3 := hB2.ext x3
        clear hB2 x3 xx2
        go_wp2_with fail
        refine (strings_Split_c rs 44 _ (by omega) (N.M.mono (x1.trans xx3))).mono ?_
        rintro e w4 ⟨v4, F4, rfl, o4, n4, x4⟩
        have xx4 := xx3.trans x4
        have hB4 := hB3.ext x4
        clear hB3 x4 xx3 n4
        obtain ⟨A4, c4, rfl, _⟩ := o4.form
        have hpl4 := Nat.le_trans (pcs_len 44 rs) (Nat.add_le_add_right (Nat.le_trans hz2 hS) 1)
        have HPS4 := hid (fun q (h : q ∈ pcs 44 rs) => Nat.le_trans (pcs_size h) (Nat.le_trans hz2 hS))
        go_wp2_with fail
        refine (impl_parseInts _ (pcs 44 rs) _ o4.sl (by omega) (fun q hq => Nat.le_trans (HPS4.out q hq) (by decide)) (N.mono (x1.trans xx4))).mono ?_
        rintro e w5 ⟨u, F5, rfl, o5, n5, x5⟩
        obtain ⟨A5, c5, rfl, _⟩ := o5.form
        have xx5 := xx4.trans x5
        have hB5 := hB4.ext x5
        have hfr := hB4.fresh n5 xx4.size
        clear hB4 x5 xx4 n5 o4
        have hI := pI_64 nm
        have hbs := xx5.size
        have hno : ((pI nm).2 && (pIs (pcs 44 rs)).2) = false → Hid (pE s = ([], false)) := fun h => hid (ans_no fun x q1 q2 => by
          have h9 := (HA.out x q1 q2).2.1 p HM.out
          rw [HEI.out] at h9
          exact absurd (h9.symm.trans h) (by simp))
        cases h1 : (pI nm).2 with
        | false =>
          have HP := hno (by rw [h1]; rfl)
          clear hno
          go_wp2
          refine bodyPost_ret (v := .tuple #[.slice none 0 0, .bool false]) (by simp [results, Tryd.results18, go_sem]) rfl ?_
          exact ⟨_, [], by rw [HP.out], by rw [HP.out]; exact OwnSl.nilS _ _, NewF.nil _, x1.trans xx5⟩
        | true =>
          cases h2 : (pIs (pcs 44 rs)).2 with
          | false =>
            have HP := hno (by rw [h1, h2]; rfl)
            clear hno
            go_wp2
            refine bodyPost_ret (v := .tuple #[.slice none 0 0, .bool false]) (by simp [results, Tryd.results18, go_sem]) rfl ?_
            exact ⟨_, [], by rw [HP.out], by rw [HP.out]; exact OwnSl.nilS _ _, NewF.nil _, x1.trans xx5⟩
          | true =>
            have HE2 := hid (show eI p = (⟨(pI nm).1, (pIs (pcs 44 rs)).1⟩, true) by rw [HEI.out, h1, h2]; rfl)
            have hnew := hid (show ∀ q ∈ ps.take (k + 1), (eI q).2 = true from fun q hm => by
              rw [List.take_succ_eq_append_getElem hlt, List.mem_append, List.mem_singleton] at hm
              rcases hm with hm | rfl
              · exact hall.out q hm
              · rw [← HPK.out, HE2.out])
            have HO2 := hid (show (ps.take (k + 1)).map (fun q => (eI q).1) = (ps.take k).map (fun q => (eI q).1) ++ [⟨(pI nm).1, (pIs (pcs 44 rs)).1⟩] by
              rw [List.take_succ_eq_append_getElem hlt, List.map_append, List.map_singleton, ← HPK.out, HE2.out])
            have hll : ((ps.take k).map (fun q => (eI q).1)).length ≤ 1048600 := by rw [List.length_map, List.length_take]; omega
            have HB5 := hid hB5
            have HO5 := hid o5
            have HFR := hid hfr
            clear hno h1 h2 hB5 o5 hfr
            go_wp2_with (at_builtin; refine wpList_app1 (R := entityO) elemEnt (by decide) rfl _ _ rfl HB5.out rfl w5.heap.size 1 rfl rfl (one_ent _ _ _ _) (y := ⟨(pI nm).1, (pIs (pcs 44 rs)).1⟩) (G := F5) ⟨_, rfl, hI, HO5.out⟩ HFR.out (Nat.le_trans (Nat.add_le_add_right hll 1) (by decide)) (by decide) hbs ?_; intro v9 w9 hB9 hE9)
            go_roundw
            case rel => exact ⟨k + 1, F ++ F5, by omega, by go_num, by rw [HO2.out]; exact hB9, hnew, hE9 _ (Nat.le_refl _) xx5⟩
            case measure => simp [intOf]; omega
      · rw [List.take_of_length_le (by omega)] at hB
        have HL := hid (show ∀ p ∈ ps, (eI p).2 = true by have := hall.out; rwa [List.take_of_length_le (by omega)] at this)
        have hne : s ≠ ⟨#[]⟩ := fun e => by
          have h9 := HL.out ⟨#[]⟩ (by rw [HQ.out e]; exact List.mem_singleton.2 rfl)
          rw [eI_emp] at h9
          cases h9
        have HMS := hid (Nat.le_trans (ents_ms HL.out) HSM.out)
        have HAE := hid (show ∀ x, areEnts x = true → fmtEnts x = s → x = ps.map (fun p => (eI p).1) from fun x q1 q2 => (HA.out x q1 q2).1)
        obtain ⟨F8, oB, nB, hbF⟩ := hB.done
        obtain ⟨A8, c8, e8, _⟩ := oB.form
        subst e8
        have nF : NewF w F8 := ⟨nB, fun b hb => Nat.le_trans x1.size (hbF b hb)⟩
        obtain ⟨ol, hol⟩ : ∃ l, l = ps.map (fun p => (eI p).1) := ⟨_, rfl⟩
        rw [← hol] at oB HAE HMS ⊢
        clear hol hbF nB hB
        go_wp2_with fail
        refine (impl_FormatEntities _ ol _ oB.sl HMS.out (N.T.mono (x1.trans hx))).mono ?_
        rintro e w9 ⟨rfl, y9⟩
        have oB9 := oB.ext y9
        have xw9 := (x1.trans hx).trans y9
        clear oB hx y9
        by_cases hq : fmtEnts ol = s
        · have hq1 := str_eq hq
          have hq2 : (fmtEnts ol).toList = s.toList := by rw [hq]
          have HPP := hid (show pE s = (ol, true) from ans_yes HAE.out (fmtEnts_ok hq hne) hq)
          clear hq
          go_wp2
          refine bodyPost_ret (v := .tuple #[.slice A8 ol.length c8, .bool true]) (by simp [results, Tryd.results18, go_sem]) rfl ?_
          exact ⟨_, F8, by rw [HPP.out], by rw [HPP.out]; exact oB9, nF, xw9⟩
        · have hq1 := str_ne hq
          have HPP := hid (show pE s = ([], false) from ans_end HAE.out hq)
          clear hq
          go_wp2
          refine bodyPost_ret (v := .tuple #[.slice none 0 0, .bool false]) (by simp [results, Tryd.results18, go_sem]) rfl ?_
          exact ⟨_, [], by rw [HPP.out], by rw [HPP.out]; exact OwnSl.nilS _ _, NewF.nil _, xw9⟩
end Go.Proofs.YtfieimmlcopbhaaDoor
