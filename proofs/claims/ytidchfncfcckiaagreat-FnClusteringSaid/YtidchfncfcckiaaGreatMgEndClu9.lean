/-
  WALK: l17Labels (the reference's).
-/
import Derived.Test.YtidchfncfcckiaaGreatMgEndClu6

namespace Go.Proofs.YtidchfncfcckiaaGreat
open Go.RowKit

theorem Sl.bool {w : World} {A : Option Addr} {n cap : Nat} {xs : List Bool} (h : Sl boolR w (.slice A n cap) xs) {i : Nat} (hi : i < xs.length) :
    ∃ b off, A = some ⟨b, off, none⟩ ∧ w.cell? ⟨b, off + i, none⟩ = some (.bool xs[i]) := by
  obtain ⟨b, off, cs, rfl, hr, hc⟩ := h.at_ hi
  have hr : cs = [.bool xs[i]] := hr
  subst hr
  exact ⟨b, off, rfl, by simpa [boolR] using hc 0 (by simp [boolR])⟩
theorem boolT_cells {w : World} {A : Option Addr} {n cap : Nat} {B : List (List Bool)} (h : Sl (slR boolR) w (.slice A n cap) B) (hs : SqB n B) {p q : Nat} (hp : p < n) (hq : q < n) :
    ∃ bm om br or cr, A = some ⟨bm, om, none⟩ ∧ ∀ W, Ext w W → W.cell? ⟨bm, om + p, none⟩ = some (.slice (some ⟨br, or, none⟩) n cr) ∧ W.cell? ⟨br, or + q, none⟩ = some (.bool (entB B p q)) := by
  have hpB : p < B.length := by rw [hs.1]; exact hp
  obtain ⟨bm, om, Ar, cr, eA, hrow, cm⟩ := h.sl hpB
  have hrl := hs.2 p hp
  rw [getD_getElem hpB] at hrl
  obtain ⟨br, or, eAr, cq⟩ := hrow.bool (i := q) (by omega)
  subst eAr
  rw [hrl] at cm
  refine ⟨bm, om, br, or, cr, eA, fun W y => ⟨y.cell cm, ?_⟩⟩
  unfold entB
  rw [getD_getElem hpB, getD_getElem (by omega)]
  exact y.cell cq

set_option maxHeartbeats 2000000 in
set_option maxRecDepth 20000 in
theorem spec_l17Labels {n : Nat} {R : Nat → Nat → Prop} (hR : ∀ a b, R a b → R b a) (hN : ∀ a b, R a b → a < n ∧ b < n) (v : Value) (B : List (List Bool)) (w : World) (h : Sl (slR boolR) w v B) (hs : SqB n B)
    (hl : ∀ a b, a < n → b < n → (entB B a b = true ↔ R a b)) (hn : n ≤ 8) :
    Calls Tryz.prog 100 #[.int .i64 n, v] w fun e w2 => ∃ v2 F, e = .returned v2 ∧ OwnSl intO w2 v2 (compL n R) F ∧ NewF w F ∧ Ext w w2 := by
  obtain ⟨A, cap, rfl, hm⟩ := h.form
  rw [hs.1] at h ⊢
  have HT := hid (fun (p q : Nat) (hp : p < n) (hq : q < n) => boolT_cells h hs hp hq)
  have HV := hid (fun (i : Nat) (L : List Int) (c : Int) (hO : Out R n i L c) (hi : i < n) (h0 : L.getD i 0 < 0) => hO.visit hR hi h0 (sweeps_vis hR hl hO hi h0))
  have HF := hid (fun (L : List Int) (c : Int) (hO : Out R n n L c) => hO.fin hR hN)
  clear hR hN hl h hs hm
  go_enter Tryz.func100, Tryz.ntmps100
  go_wp2
  go_loopw [5, 6] (fun t i wr => ∃ k : Nat, k ≤ n ∧ i = .int .i64 k ∧ Bld intO wr w.heap.size 3 t (List.replicate k (-1)) [] ∧ Ext w wr) (fun _ i _ => n - (intOf i).toNat)
  case atStart => exact ⟨0, Nat.zero_le _, rfl, Bld.lit w (Nat.le_refl _) _, (Ext.refl _).alloc _⟩
  case round =>
    obtain ⟨k, hk, rfl, hB, hx⟩ := hrel
    by_cases hlt : k < n
    · have HB := hid hB
      have HX := hid hx
      have HLN := hid (show (List.replicate k (-1 : Int)).length + 1 ≤ 1099511627776 by rw [List.length_replicate]; omega)
      clear hB hx
      go_wp2_with (at_builtin; refine wpList_app1 (R := intO) elemInt (by decide) rfl _ _ rfl HB.out rfl _ 1 rfl (by simp) (one_int _) (own_int _ _ (by unfold I64; omega)) fresh_nil HLN.out (by decide) HX.out.size ?_; intro v9 w9 hB9 hE9)
      go_roundw
      case rel => exact ⟨k + 1, by omega, by go_num, by rw [List.replicate_succ']; exact hB9, hE9 w (Nat.le_refl _) HX.out⟩
      case measure => simp [intOf]; omega
    · have hkn : k = n := by omega
      subst hkn
      obtain ⟨F0, o0, n0, f0⟩ := hB.done
      have hf := o0.form
      obtain ⟨A0, cap0, rfl, _⟩ := hf
      rw [List.length_replicate] at o0
      have HO := hid o0
      have HN0 := hid (And.intro n0 f0)
      have HX0 := hid hx
      clear hB o0 n0 f0 hx hk hlt
      rw [List.length_replicate]
      go_wp2_with fail
      go_loopw [7, 8] (fun t i wr => ∃ (k' : Nat) (L : List Int) (c : Nat), k' ≤ k ∧ i = .int .i64 k' ∧ t = .int .i64 c ∧ c ≤ k' ∧ Out R k k' L c ∧ OwnSl intO wr (.slice A0 k cap0) L F0 ∧ Ext w wr) (fun _ i _ => k - (intOf i).toNat)
      case atStart => exact ⟨0, _, 0, Nat.zero_le _, rfl, rfl, Nat.le_refl _, Out.start R k, HO.out, HX0.out⟩
      case round =>
        clear HX0 HO
        obtain ⟨i, L, c, hi, rfl, rfl, hc, hO, o, hx⟩ := hrel
        have HO := hid hO
        have hLl := hO.len
        by_cases hil : i < k
        · obtain ⟨g, off, cap2, eV, hg, c1, f1, st⟩ := o.int_store HN0.out.1 (i := i) (by omega)
          rw [hLl] at eV
          injection eV with e9 q1 q2
          clear q1 q2
          subst e9
          have hgd := getD_getElem (d := (0 : Int)) (show i < L.length by omega)
          have HGD := hid hgd
          clear hgd
          obtain ⟨x, hxe⟩ : ∃ x, x = L[i] := ⟨_, rfl⟩
          rw [← hxe] at c1 HGD
          by_cases hx0 : 0 ≤ x
          · have HS := hid (hO.skip hil (by rw [HGD.out]; exact hx0))
            have HOS := hid o
            clear hO o st hxe
            go_wp2
            go_roundw
            case rel => exact ⟨i + 1, L, c, by omega, by go_num, rfl, by omega, HS.out, HOS.out, hx⟩
            case measure => simp [intOf]; omega
          · have HS := hid (HV.out i L c hO hil (by rw [HGD.out]; omega))
            have HOS := hid (st (c : Int) (by unfold I64; omega))
            have HXS := hid (hx.setCell (p := ⟨g, off + i, none⟩) (HN0.out.2 g hg) (.int .i64 c))
            have HGW := hid (HN0.out.2 g hg)
            have HLL := hid (show (L.set i (c : Int)).length = k by rw [List.length_set]; exact hLl)
            clear hO o st hxe hx hg hLl
            go_wp2_with fail
            obtain ⟨W1, hW1⟩ : ∃ W, W = wr.setCell ⟨g, off + i, none⟩ (.int .i64 c) := ⟨_, rfl⟩
            rw [← hW1] at HOS HXS ⊢
            clear hW1
            go_loopw [9] (fun t wz => ∃ (s : Nat) (L1 : List Int), s ≤ k ∧ t = .int .i64 s ∧ L1 = sweeps (entB B) c k s (L.set i c) ∧ L1.length = k ∧ OwnSl intO wz (.slice (some ⟨g, off, none⟩) k cap0) L1 F0 ∧ Ext w wz) (fun t _ => k - (intOf t).toNat)
            case atStart => exact ⟨0, _, Nat.zero_le _, rfl, rfl, HLL.out, HOS.out, HXS.out⟩
            case round =>
              clear HOS HXS
              obtain ⟨s, L1, hs, rfl, e1, l1, o1, x1⟩ := hrel
              by_cases hsk : s < k
              · have E1 := hid e1
                have L1L := hid l1
                have O1 := hid o1
                have X1 := hid x1
                clear e1 l1 o1 x1
                go_wp2_with fail
                go_loopw [10] (fun t wz => ∃ (a : Nat) (L2 : List Int), a ≤ k ∧ t = .int .i64 a ∧ L2 = (List.range a).foldl (sweepRow (entB B) c k) L1 ∧ L2.length = k ∧ OwnSl intO wz (.slice (some ⟨g, off, none⟩) k cap0) L2 F0 ∧ Ext w wz) (fun t _ => k - (intOf t).toNat)
                case atStart => exact ⟨0, _, Nat.zero_le _, rfl, rfl, L1L.out, O1.out, X1.out⟩
                case round =>
                  clear O1 X1
                  obtain ⟨a, L2, ha, rfl, e2, l2, o2, x2⟩ := hrel
                  by_cases hak : a < k
                  · have E2 := hid e2
                    have L2L := hid l2
                    have O2 := hid o2
                    have X2 := hid x2
                    clear e2 l2 o2 x2
                    go_wp2_with fail
                    go_loopw [11] (fun t wz => ∃ (b : Nat) (L3 : List Int), b ≤ k ∧ t = .int .i64 b ∧ L3 = (List.range b).foldl (sweepSt (entB B) c a) L2 ∧ L3.length = k ∧ OwnSl intO wz (.slice (some ⟨g, off, none⟩) k cap0) L3 F0 ∧ Ext w wz) (fun t _ => k - (intOf t).toNat)
                    case atStart => exact ⟨0, _, Nat.zero_le _, rfl, rfl, L2L.out, O2.out, X2.out⟩
                    case round =>
                      clear O2 X2
                      obtain ⟨b, L3, hb, rfl, e3, l3, o3, x3⟩ := hrel
                      by_cases hbk : b < k
                      · obtain ⟨g1, off1, cap1, eV1, _, ca, _, _⟩ := o3.int_store HN0.out.1 (i := a) (by omega)
                        rw [l3] at eV1
                        injection eV1 with e9 q1 q2
                        clear q1 q2
                        injection e9 with e9
                        injection e9 with e8 e7 q3
                        clear q3
                        subst e8; subst e7
                        obtain ⟨g1, off1, cap1, eV1, _, cb, fb, st⟩ := o3.int_store HN0.out.1 (i := b) (by omega)
                        rw [l3] at eV1
                        injection eV1 with e9 q1 q2
                        clear q1 q2
                        injection e9 with e9
                        injection e9 with e8 e7 q3
                        clear q3
                        subst e8; subst e7
                        have hga := getD_getElem (d := (0 : Int)) (show a < L3.length by omega)
                        have HE := hid (show (List.range (b + 1)).foldl (sweepSt (entB B) c a) L2 = if L3.getD a 0 = c ∧ entB B a b = true then L3.set b c else L3 by
                          rw [List.range_succ, List.foldl_append, ← e3]; rfl)
                        rw [hga] at HE
                        clear hga
                        obtain ⟨bm, om, br, or, cr, eA, ht⟩ := HT.out a b hak hbk
                        obtain ⟨ct, cq⟩ := ht wr x3
                        subst eA
                        obtain ⟨y, hye⟩ : ∃ y, y = L3[a] := ⟨_, rfl⟩
                        rw [← hye] at ca HE
                        obtain ⟨z, hze⟩ : ∃ z, z = L3[b] := ⟨_, rfl⟩
                        rw [← hze] at cb
                        clear hze
                        obtain ⟨q, hqe⟩ : ∃ q, q = entB B a b := ⟨_, rfl⟩
                        rw [← hqe] at cq HE
                        have HO3 := hid o3
                        have HL3 := hid l3
                        have HX3 := hid x3
                        have HST := hid (st (c : Int) (by unfold I64; omega))
                        clear hye hqe e3 ht o3 st x3 l3
                        by_cases hy : y = (c : Int)
                        · cases q with
                          | true =>
                            subst hy
                            rw [if_pos ⟨rfl, rfl⟩] at HE
                            go_wp2
                            go_roundw
                            case rel => exact ⟨b + 1, _, by omega, by go_num, HE.out.symm, by rw [List.length_set]; exact HL3.out, HST.out, HX3.out.setCell HGW.out _⟩
                            case measure => simp [intOf]; omega
                          | false =>
                            subst hy
                            rw [if_neg (fun h => Bool.noConfusion h.2)] at HE
                            go_wp2
                            go_roundw
                            case rel => exact ⟨b + 1, _, by omega, by go_num, HE.out.symm, HL3.out, HO3.out, HX3.out⟩
                            case measure => simp [intOf]; omega
                        · have hy1 : (y == (c : Int)) = false := by simpa using hy
                          rw [if_neg (fun h => hy h.1)] at HE
                          clear hy
                          go_wp2
                          go_roundw
                          case rel => exact ⟨b + 1, _, by omega, by go_num, HE.out.symm, HL3.out, HO3.out, HX3.out⟩
                          case measure => simp [intOf]; omega
                      · have hbk2 : b = k := by omega
                        subst hbk2
                        have HE := hid (show L3 = (List.range (a + 1)).foldl (sweepRow (entB B) c b) L1 by
                          rw [List.range_succ, List.foldl_append, ← E2.out, e3]; rfl)
                        clear e3
                        go_wp2
                        go_roundw
                        case rel => exact ⟨a + 1, L3, by omega, by go_num, HE.out, l3, o3, x3⟩
                        case measure => simp [intOf]; omega
                  · have hak2 : a = k := by omega
                    subst hak2
                    have HE := hid (show L2 = sweeps (entB B) c a (s + 1) (L.set i c) by
                      show L2 = sweep (entB B) c a _
                      rw [← E1.out, e2]; rfl)
                    clear e2
                    go_wp2
                    go_roundw
                    case rel => exact ⟨s + 1, L2, by omega, by go_num, HE.out, l2, o2, x2⟩
                    case measure => simp [intOf]; omega
              · have hsk2 : s = k := by omega
                subst hsk2
                have HO1 := hid (show Out R s (i + 1) L1 ((c + 1 : Nat) : Int) by
                  rw [e1]
                  exact HS.out)
                clear e1 hsk hs
                go_wp2
                go_roundw
                case rel => exact ⟨i + 1, L1, c + 1, by omega, by go_num, by go_num, by omega, HO1.out, o1, x1⟩
                case measure => simp [intOf]; omega
        · have hik : i = k := by omega
          subst hik
          have HE := hid (HF.out L c hO)
          clear hO
          go_wp2
          go_ret
          exact ⟨_, F0, rfl, HE.out ▸ o, HN0.out, hx⟩
end Go.Proofs.YtidchfncfcckiaaGreat
