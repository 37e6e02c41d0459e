/-
  WALKS: square, PositiveComponents (the program's, with its recursive closure).
-/
import Derived.Test.YtidchfncfcckiaaGreatMgEndClu2
import Derived.Test.YtidchfncfcckiaaGreatMgEndClu0
import Derived.Laws.EntriesVeiled

namespace Go.Proofs.YtidchfncfcckiaaGreat
open Go.RowKit

theorem zeros_i (W : World) (n : Nat) (T : TypeId) (hn : n ≤ maxLen) : OwnSl intO (W.alloc (.cells (List.replicate n (Value.int .i64 0)).toArray T)) (.slice (some ⟨W.heap.size, 0, none⟩) n n) (List.replicate n (0 : Int)) [W.heap.size] := by
  have hc : ∀ n : Nat, OwnCells intO (W.alloc (.cells (List.replicate n (Value.int .i64 0)).toArray T)) (List.replicate n (.int .i64 0)) (List.replicate n (0 : Int)) [] := by
    intro n
    generalize W.alloc (.cells (List.replicate n (Value.int .i64 0)).toArray T) = W2
    induction n with
    | zero => exact .nil
    | succ n ih =>
      simp only [List.replicate_succ]
      exact ⟨[.int .i64 0], _, [], [], rfl, rfl, ⟨⟨rfl, by unfold I64; omega⟩, rfl⟩, ih⟩
  have := OwnSl.of_blk (R := intO) (xs := List.replicate n (0 : Int)) (Blk.new W T (List.replicate n (Value.int .i64 0)).toArray) (by rw [List.length_replicate]; exact hn) (hc n)
  rwa [List.length_replicate] at this

set_option maxHeartbeats 1000000 in
theorem impl_square (n : Nat) (w : World) (hn : n ≤ 1048576) :
    Calls Tryz.prog 86 #[.int .i64 n] w fun e w2 => ∃ v F, e = .returned v ∧ OwnSl (slO intO) w2 v (List.replicate n (List.replicate n 0)) F ∧ NewF w F ∧ Ext w w2 := by
  obtain ⟨i0, hi0, hz0, hz1, hz2⟩ := info_parts infoInts
  have hmk := run_mk (P := Tryz.prog) 24 28 i0 _ [.slice none 0 0] 24 Tryz.underlying24 hi0 hz0 rfl hz1 hz2 n (by omega) (by omega)
  rw [flat_rep] at hmk
  obtain ⟨i1, hi1, hz3, hz4, hz5⟩ := info_parts infoInt
  have hmk1 := run_mk (P := Tryz.prog) 28 3 i1 _ [.int .i64 0] 8 Tryz.underlying28 hi1 hz3 rfl hz4 hz5 n (by omega) (by omega)
  rw [flat_rep] at hmk1
  clear hi0 hz0 hz1 hz2 hi1 hz3 hz4 hz5
  go_enter Tryz.func86, Tryz.ntmps86
  go_wp2
  go_loopw [9] (fun i wr => ∃ (k : Nat) (done : List Value) (F : List Nat), k ≤ n ∧ i = .int .i64 k ∧ Blk wr w.heap.size 28 (done ++ List.replicate (n - k) (.slice none 0 0)) ∧
    OwnCells (slO intO) wr done (List.replicate k (List.replicate n 0)) F ∧ FromF w.heap.size F ∧ Ext w wr) (fun i _ => n - (intOf i).toNat)
  case atStart => exact ⟨0, [], [], Nat.zero_le _, rfl, by simpa using Blk.new w 28 (Array.replicate n (.slice none 0 0)), .nil, .nil _, (Ext.refl _).alloc _⟩
  case round =>
    obtain ⟨k, done, F, hk, rfl, hblk, hown, hF, hx⟩ := hrel
    by_cases hlt : k < n
    · have hz : List.replicate (n - k) (Value.slice none 0 0) = .slice none 0 0 :: List.replicate (n - (k + 1)) (.slice none 0 0) := by
        rw [show n - k = (n - (k + 1)) + 1 by omega, List.replicate_succ]
      rw [hz] at hblk
      clear hz
      have hl : done.length = k := by rw [hown.length, List.length_replicate]; simp [slO, slR]
      have hgl := block_lt hblk.out
      obtain ⟨Z, hZ⟩ : ∃ Z, Z = (List.replicate n (Value.int .i64 0)).toArray := ⟨_, rfl⟩
      rw [← hZ] at hmk1
      have x2 : Ext wr (wr.alloc (.cells Z 3)) := (Ext.refl _).alloc _
      have ho := zeros_i wr n 3 (by unfold maxLen; omega)
      rw [← hZ] at ho
      have hblk2 := hblk.ext x2
      obtain ⟨hcell, hfr⟩ := hblk2.at_ hl
      have hst := hblk2.store hl (.slice (some ⟨wr.heap.size, 0, none⟩) n n)
      obtain ⟨ho3, hF3⟩ := hown.step (w3 := (wr.alloc (.cells Z 3)).setCell ⟨w.heap.size, k, none⟩ (.slice (some ⟨wr.heap.size, 0, none⟩) n n)) (R := slO intO) hF x2 ⟨_, rfl, ho⟩ ⟨by simp, fun b hb => by rw [List.mem_singleton] at hb; omega⟩ hgl (fun b hb => keep_setCell hb)
      have HREL := hid (And.intro hst (And.intro ho3 (And.intro hF3 (show Ext w ((wr.alloc (.cells Z 3)).setCell ⟨w.heap.size, k, none⟩ (.slice (some ⟨wr.heap.size, 0, none⟩) n n)) from (hx.trans x2).setCell (by simp) _))))
      rw [World.setCell_alloc_past (w := wr) (.cells Z 3) w.heap.size k (.slice (some ⟨wr.heap.size, 0, none⟩) n n) hgl] at HREL
      clear hblk hblk2 hl hst ho3 hF3 ho hown hF hx x2 hZ
      go_wp2
      go_roundw
      case rel => exact ⟨k + 1, _, _, by omega, by go_num, HREL.out.1, by rw [List.replicate_succ']; exact HREL.out.2.1, HREL.out.2.2.1, HREL.out.2.2.2⟩
      case measure => simp [intOf]; omega
    · go_wp2
      go_ret
      rw [show n - k = 0 by omega, List.replicate_zero, List.append_nil] at hblk
      have hkn : k = n := by omega
      subst hkn
      have := OwnSl.of_blk (xs := List.replicate k (List.replicate k (0 : Int))) hblk (by rw [List.length_replicate]; unfold maxLen; omega) hown
      rw [List.length_replicate] at this
      exact ⟨_, _, rfl, this, hF.new rfl, hx⟩

/-! ### The closure -/
/-- all but one block stand -/
def Agree (w0 w : World) (g : Nat) : Prop := ∀ b, b ≠ g → w.heap[b]? = w0.heap[b]?
theorem Agree.set {w0 w : World} {g i : Nat} {u : Value} (h : Agree w0 w g) : Agree w0 (w.setCell ⟨g, i, none⟩ u) g := fun b hb => (keep_setCell hb).trans (h b hb)
theorem Agree.cell {w0 w : World} {g b i : Nat} {u : Value} (h : Agree w0 w g) (hb : b ≠ g) (hc : w0.cell? ⟨b, i, none⟩ = some u) : w.cell? ⟨b, i, none⟩ = some u := by
  rw [← hc]
  unfold World.cell?
  simp only [h b hb]
theorem blk_set {w : World} {g i : Nat} {T : TypeId} {l : List Int} {x : Int} (h : Blk w g T (l.map (Value.int .i64))) (hi : i < l.length) : Blk (w.setCell ⟨g, i, none⟩ (.int .i64 x)) g T ((l.set i x).map (Value.int .i64)) := by
  have := h.setAt i (by rw [List.length_map]; exact hi) (.int .i64 x)
  rwa [List.map_set]
theorem blk_at {w : World} {g i : Nat} {T : TypeId} {l : List Int} (h : Blk w g T (l.map (Value.int .i64))) (hi : i < l.length) : w.cell? ⟨g, i, none⟩ = some (.int .i64 (l.getD i 0)) ∧ w.frozen? ⟨g, i, none⟩ = false := by
  refine ⟨?_, h.cells.2 i⟩
  rw [h.cells.1, List.getElem?_map, List.getElem?_eq_getElem hi, getD_getElem hi]
  rfl

section
variable (m : List (List Int)) (hm : WM m) (wE w0 : World) (A : Option Addr) (cap gc go gm gv gr : Nat) (c : Int)
  (hE : Sl (slR intR) wE (.slice A m.length cap) m) (hgr : wE.heap.size ≤ gr)
  (hc : w0.cell? ⟨gc, 0, none⟩ = some (.int .i64 c)) (ho : w0.cell? ⟨go, 0, none⟩ = some (.slice (some ⟨gr, 0, none⟩) m.length m.length))
  (hm0 : w0.cell? ⟨gm, 0, none⟩ = some (.slice A m.length cap)) (hv : w0.cell? ⟨gv, 0, none⟩ = some (.func (.func 111) #[] #[.pointer (some ⟨gc, 0, none⟩), .pointer (some ⟨go, 0, none⟩), .pointer (some ⟨gm, 0, none⟩), .pointer (some ⟨gv, 0, none⟩)]))
  (n1 : gc ≠ gr) (n2 : go ≠ gr) (n3 : gm ≠ gr) (n4 : gv ≠ gr) (hc0 : 0 ≤ c ∧ c ≤ 8)
include hm hE hgr hc ho hm0 hv n1 n2 n3 n4 hc0
set_option maxHeartbeats 2000000 in
set_option maxRecDepth 20000 in
theorem visit_c (fuel : Nat) : ∀ (i : Nat) (l : List Int) (w : World), negs m.length l ≤ fuel → l.length = m.length → i < m.length → l.getD i 0 < 0 → Blk w gr 3 (l.map (Value.int .i64)) → Agree w0 w gr → Ext wE w →
    Calls Tryz.prog 111 #[.int .i64 i, .pointer (some ⟨gc, 0, none⟩), .pointer (some ⟨go, 0, none⟩), .pointer (some ⟨gm, 0, none⟩), .pointer (some ⟨gv, 0, none⟩)] w fun e w2 =>
      e = .returned (.tuple #[]) ∧ ∃ l', Vis (linkM m) m.length c i l l' ∧ Blk w2 gr 3 (l'.map (Value.int .i64)) ∧ Agree w0 w2 gr ∧ Ext wE w2 := by
  induction fuel with
  | zero =>
    intro i l w hf hl hi h0
    have : 0 < negs m.length l := List.countP_pos_iff.2 ⟨i, List.mem_range.2 hi, by rw [decide_eq_true_eq]; exact h0⟩
    omega
  | succ fuel ih =>
    intro i l w hf hl hi h0 hB hA hx
    have IH := hid ih
    clear ih
    have a1 := hA.cell n1 hc
    have a2 := hA.cell n2 ho
    have b1 := blk_at hB (i := i) (by omega)
    obtain ⟨b1, b2⟩ := b1
    have hB1 := blk_set (x := c) hB (i := i) (by omega)
    have hA1 : Agree w0 (w.setCell ⟨gr, i, none⟩ (.int .i64 c)) gr := hA.set
    have hx1 : Ext wE (w.setCell ⟨gr, i, none⟩ (.int .i64 c)) := hx.setCell hgr _
    have a3 := hA1.cell n3 hm0
    obtain ⟨bm, om, Ar, cr, eA, hrow, cm⟩ := hE.sl hi
    have cm1 := hx1.cell cm
    have hrl : m[i].length = m.length := by have := hm.row i hi; rwa [row_at hi] at this
    obtain ⟨w1, hw1⟩ : ∃ w1, w1 = w.setCell ⟨gr, i, none⟩ (.int .i64 c) := ⟨_, rfl⟩
    rw [← hw1] at hB1 hA1 hx1
    have HROW := hid hrow
    have HA1 := hid hA1
    have HB1 := hid hB1
    have HX1 := hid hx1
    have HE := hid hE
    have HM := hid hm
    have HR0 := hid (Row.start (R := linkM m) hl hi h0 hc0.1)
    have HC := hid (And.intro ho hv)
    have HH := hid (And.intro h0 (And.intro hf hl))
    have hi8 : (i : Int) < (m.length : Int) := by omega
    cases eA
    rw [hrl] at cm1
    clear hB hA hx hB1 hA1 hx1 hrow cm hE hm hc ho hm0 hv h0 hf hl
    go_enter Tryz.func111, Tryz.ntmps111
    go_wp2_with fail
    rw [← hw1]
    have HRL := hid hrl
    clear a1 a2 a3 b1 b2 cm1 hw1 hrl
    go_loopw [17] (fun j wr => ∃ (k : Nat) (l1 : List Int), k ≤ m.length ∧ j = .int .i64 k ∧ Row (linkM m) m.length c i k l l1 ∧ Blk wr gr 3 (l1.map (Value.int .i64)) ∧ Agree w0 wr gr ∧ Ext wE wr) (fun j _ => m.length - (intOf j).toNat)
    case atStart => exact ⟨0, l.set i c, Nat.zero_le _, rfl, HR0.out, HB1.out, HA1.out, HX1.out⟩
    case round =>
      clear HR0 HB1 HA1 HX1
      obtain ⟨k, l1, hk, rfl, hR, hB, hA, hx⟩ := hrel
      by_cases hlt : k < m.length
      · have hkr : k < m[i].length := by rw [HRL.out]; exact hlt
        obtain ⟨b2, off2, e2, _, ck⟩ := (HROW.out.mono hx).int hkr
        subst e2
        have HEN := hid (ent_at hi hkr)
        have hlk : (k : Int) < (m.length : Int) := by omega
        have HLT := hid hlt
        have h8 := HM.out.n8
        have a2 := hA.cell n2 HC.out.1
        have a4 := hA.cell n4 HC.out.2
        obtain ⟨b1, _⟩ := blk_at hB (i := k) (by rw [hR.len]; exact hlt)
        by_cases hp : 0 < m[i][k]
        · obtain ⟨lk, hlkv⟩ : ∃ x, x = l1.getD k 0 := ⟨_, rfl⟩
          rw [← hlkv] at b1
          by_cases hneg : lk < 0
          · have HCALL := hid (IH.out k l1 wr (by have := hR.negs hi HH.out.1 hc0.1; have := HH.out.2.1; omega) hR.len hlt (by rw [← hlkv]; exact hneg) hB hA hx)
            have HV := hid (fun (l2 : List Int) (v : Vis (linkM m) m.length c k l1 l2) => hR.visit hc0.1 hlt ⟨hi, hlt, by rw [HEN.out]; exact hp⟩ (by rw [← hlkv]; exact hneg) v hi)
            clear hR hB hA hx hlkv
            go_wp2_with (go_at_call 111; refine (HCALL.out).mono ?_; rintro e w2 ⟨rfl, l2, hV, hB2, hA2, hx2⟩)
            go_roundw
            case rel => exact ⟨k + 1, l2, HLT.out, by go_num, HV.out l2 hV, hB2, hA2, hx2⟩
            case measure => have := HLT.out; simp [intOf]; omega
          · have HS := hid (hR.skip fun _ => by rw [← hlkv]; omega)
            clear hR hlkv
            have hneg2 : 0 ≤ lk := by omega
            clear hneg
            go_wp2
            go_roundw
            case rel => exact ⟨k + 1, l1, HLT.out, by go_num, HS.out, hB, hA, hx⟩
            case measure => have := HLT.out; simp [intOf]; omega
        · have HS := hid (hR.skip fun hr => absurd hr.2.2 (by rw [HEN.out]; exact hp))
          clear hR
          have hp2 : m[i][k] ≤ 0 := by omega
          clear hp
          go_wp2
          go_roundw
          case rel => exact ⟨k + 1, l1, HLT.out, by go_num, HS.out, hB, hA, hx⟩
          case measure => have := HLT.out; simp [intOf]; omega
      · have hkn : k = m.length := by omega
        subst hkn
        have HF := hid hR.fin
        clear hR
        go_wp2
        go_end0
        exact ⟨rfl, l1, HF.out, hB, hA, hx⟩
end
theorem nextOf_le : ∀ (n : Nat) (l : List Int), l.length = n → RG l → nextOf l ≤ n
  | 0, l, h, _ => by
    have : l = [] := List.eq_nil_of_length_eq_zero h
    subst this
    exact Int.le_refl _
  | n + 1, l, h, hr => by
    rcases List.eq_nil_or_concat l with rfl | ⟨p, x, rfl⟩
    · simp at h
    · rw [List.concat_eq_append] at h hr ⊢
      obtain ⟨hp, x0, x1⟩ := hr.init
      have := nextOf_le n p (by simpa using h) hp
      rw [nextOf_snoc]
      omega
theorem Out.c_le {R : Nat → Nat → Prop} {n i : Nat} {l : List Int} {c : Int} (h : Out R n i l c) (hi : i ≤ n) : 0 ≤ c ∧ c ≤ i := by
  have h1 := (RG.facts _ _ rfl h.rg).1
  have h2 := nextOf_le _ _ rfl h.rg
  rw [h.next] at h1 h2
  rw [List.length_take, h.len] at h2
  omega
theorem all_neg {n : Nat} {l : List Int} (hl : l.length = n) (h : ∀ j, j < n → l.getD j 0 = -1) : l = List.replicate n (-1) := by
  apply List.ext_getElem (by rw [hl, List.length_replicate])
  intro j h1 h2
  rw [List.getElem_replicate, ← getD_getElem (d := 0) h1]
  exact h j (by omega)

set_option maxHeartbeats 4000000 in
set_option maxRecDepth 20000 in
theorem impl_PositiveComponents (v : Value) (m : List (List Int)) (w : World) (h : Sl (slR intR) w v m) :
    Calls Tryz.prog 57 #[v] w fun e w2 => ∃ v2 F, e = .returned v2 ∧ OwnSl intO w2 v2 (posC m) F ∧ NewF w F ∧ Ext w w2 ∧ (wmB m = false → v2 = .slice none 0 0) := by
  obtain ⟨A, cap, rfl, hml⟩ := h.form
  have hxb : Ext w (w.alloc (.cells #[.slice A m.length cap] 24)) := (Ext.refl _).alloc _
  have HWM := hid (impl_IsWeightMatrix _ m (w.alloc (.cells #[.slice A m.length cap] 24)) (h.mono hxb))
  cases hw : wmB m with
  | false =>
    have HP := hid (show posC m = [] from by unfold posC; rw [hw]; rfl)
    rw [hw] at HWM
    clear hw h
    go_enter Tryz.func57, Tryz.ntmps57
    go_wp2_with fail
    refine (HWM.out).mono ?_
    rintro e w2 ⟨rfl, rfl⟩
    go_wp2
    go_ret
    exact ⟨_, [], rfl, by rw [HP.out]; exact .inl ⟨rfl, rfl, none, 0, rfl, Nat.zero_le _⟩, .nil _, hxb, fun _ => rfl⟩
  | true =>
    have hm := wmB_iff.1 hw
    have HP := hid (show posC m = compL m.length (linkM m) from by unfold posC; rw [hw]; rfl)
    rw [hw] at HWM
    have h8 := hm.n8
    obtain ⟨i1, hi1, hz3, hz4, hz5⟩ := info_parts infoInt
    have hmk1 := run_mk (P := Tryz.prog) 28 3 i1 _ [.int .i64 0] 8 Tryz.underlying28 hi1 hz3 rfl hz4 hz5 m.length (by omega) (by omega)
    rw [flat_rep] at hmk1
    obtain ⟨Z, hZ⟩ : ∃ Z, Z = (List.replicate m.length (Value.int .i64 0)).toArray := ⟨_, rfl⟩
    rw [← hZ] at hmk1
    have HZ := hid (show Z.toList = (List.replicate m.length (0 : Int)).map (Value.int .i64) from by rw [hZ]; simp)
    have HM := hid hm
    have HH := hid h
    clear hi1 hz3 hz4 hz5 hw hZ hm h
    go_enter Tryz.func57, Tryz.ntmps57
    go_wp2_with fail
    refine (HWM.out).mono ?_
    rintro e w2 ⟨rfl, rfl⟩
    go_wp2_with fail
    obtain ⟨W0, hW0⟩ : ∃ W, W = ((w.alloc (.cells #[.slice A m.length cap] 24)).alloc (.cells Z 3)).alloc (.cells #[.slice (some ⟨w.heap.size + 1, 0, none⟩) m.length m.length] 28) := ⟨_, rfl⟩
    have bM : Blk W0 w.heap.size 24 [.slice A m.length cap] := by rw [hW0]; exact ((Blk.new w 24 #[.slice A m.length cap]).ext ((Ext.refl _).alloc _)).ext ((Ext.refl _).alloc _)
    have bR : Blk W0 (w.heap.size + 1) 3 Z.toList := by
      rw [hW0]
      have := (Blk.new (w.alloc (.cells #[.slice A m.length cap] 24)) 3 Z).ext ((Ext.refl _).alloc (.cells #[.slice (some ⟨w.heap.size + 1, 0, none⟩) m.length m.length] 28))
      rwa [World.size_alloc] at this
    have bO : Blk W0 (w.heap.size + 1 + 1) 28 [.slice (some ⟨w.heap.size + 1, 0, none⟩) m.length m.length] := by
      rw [hW0]
      have := Blk.new ((w.alloc (.cells #[.slice A m.length cap] 24)).alloc (.cells Z 3)) 28 #[.slice (some ⟨w.heap.size + 1, 0, none⟩) m.length m.length]
      rwa [World.size_alloc, World.size_alloc] at this
    have x0 : Ext w W0 := by rw [hW0]; exact (((Ext.refl _).alloc _).alloc _).alloc _
    have s0 : W0.heap.size = w.heap.size + 1 + 1 + 1 := by rw [hW0]; simp
    rw [← hW0]
    rw [HZ.out] at bR
    have HX0 := hid x0
    obtain ⟨gm, hgm⟩ : ∃ g, g = w.heap.size := ⟨_, rfl⟩
    obtain ⟨gr, hgr⟩ : ∃ g, g = w.heap.size + 1 := ⟨_, rfl⟩
    obtain ⟨go, hgo⟩ : ∃ g, g = w.heap.size + 1 + 1 := ⟨_, rfl⟩
    have HSW := hid (And.intro hgm (And.intro hgr (And.intro hgo s0)))
    rw [← hgo, ← hgr] at bO
    rw [← hgr] at bR
    rw [← hgm] at bM
    rw [← hgo, ← hgr, ← hgm]
    have cM := bM.cells.1 0
    have cO := bO.cells.1 0
    have ne1 : gm ≠ gr := by omega
    have ne2 : go ≠ gr := by omega
    clear hW0 bM bO x0 s0 hgm hgr hgo HZ hmk1
    go_loopw [16] (fun i wr => ∃ (k : Nat) (l : List Int), k ≤ m.length ∧ i = .int .i64 k ∧ l.length = m.length ∧ (∀ j, j < k → l.getD j 0 = -1) ∧ Blk wr gr 3 (l.map (Value.int .i64)) ∧ Agree W0 wr gr ∧ Ext w wr ∧ W0.heap.size = wr.heap.size) (fun i _ => m.length - (intOf i).toNat)
    case atStart => exact ⟨0, _, Nat.zero_le _, rfl, List.length_replicate, fun j hj => absurd hj (Nat.not_lt_zero _), bR, fun _ _ => rfl, HX0.out, rfl⟩
    case round =>
      clear bR
      obtain ⟨k, l, hk, rfl, hl, hneg, hB, hA, hx, hsz⟩ := hrel
      have HNEG := hid hneg
      have HSZ := hid hsz
      have c2 : wr.cell? ⟨go, 0, none⟩ = some (.slice (some ⟨gr, 0, none⟩) m.length m.length) := hA.cell ne2 cO
      clear hneg hsz
      by_cases hlt : k < m.length
      · obtain ⟨c1, f1⟩ := blk_at hB (i := k) (by omega)
        have hlk : (k : Int) < (m.length : Int) := by omega
        have HB := hid (blk_set (x := -1) hB (i := k) (by omega))
        have HA := hid (show Agree W0 (wr.setCell ⟨gr, k, none⟩ (.int .i64 (-1))) gr from hA.set)
        have HX := hid (show Ext w (wr.setCell ⟨gr, k, none⟩ (.int .i64 (-1))) from hx.setCell (show w.heap.size ≤ gr by have := HSW.out; omega) _)
        have HL := hid hl
        clear hB hA hx hl
        go_wp2
        go_roundw
        case rel => exact ⟨k + 1, l.set k (-1), by omega, by go_num, by rw [List.length_set]; exact HL.out, fun j hj => by
          rw [getD_set _ _ _ _ (by have := HL.out; omega)]
          split
          · rfl
          · exact HNEG.out j (by omega), HB.out, HA.out, HX.out, by rw [World.size_setCell]; exact HSZ.out⟩
        case measure => simp [intOf]; omega
      · have hkn : k = m.length := by omega
        subst hkn
        have hlr := all_neg hl HNEG.out
        subst hlr
        have c3 : wr.cell? ⟨gm, 0, none⟩ = some (.slice A m.length cap) := hA.cell ne1 cM
        have HB := hid hB
        have HX := hid hx
        have hs9 : wr.heap.size = go + 1 := by have := HSZ.out; have := HSW.out; omega
        obtain ⟨wq, hwq⟩ : ∃ wq, wq = wr := ⟨_, rfl⟩
        rw [← hwq] at HB HX c2 c3 hs9 ⊢
        have HS9 := hid hs9
        have c2n := c2
        have c3n := c3
        clear hwq hl hB hA hx hs9 HSZ
        have x1 : Ext wq ((wq.alloc (.cells #[.int .i64 0] 3)).alloc (.cells #[(.func (.func 111) #[] #[.pointer (some ⟨wq.heap.size, 0, none⟩), .pointer (some ⟨go, 0, none⟩), .pointer (some ⟨gm, 0, none⟩), .pointer (some ⟨wq.heap.size + 1, 0, none⟩)])] 118)) := ((Ext.refl _).alloc _).alloc _
        have c4 := x1.cell c3
        go_wp2_with fail
        obtain ⟨W1, hW1⟩ : ∃ W, W = ((wq.alloc (.cells #[.int .i64 0] 3)).alloc (.cells #[(.func (.func 111) #[] #[.pointer (some ⟨wq.heap.size, 0, none⟩), .pointer (some ⟨go, 0, none⟩), .pointer (some ⟨gm, 0, none⟩), .pointer (some ⟨wq.heap.size + 1, 0, none⟩)])] 118)) := ⟨_, rfl⟩
        have bC : Blk W1 wq.heap.size 3 [.int .i64 0] := by rw [hW1]; exact (Blk.new wq 3 #[.int .i64 0]).ext ((Ext.refl _).alloc _)
        have bV : Blk W1 (wq.heap.size + 1) 118 [(.func (.func 111) #[] #[.pointer (some ⟨wq.heap.size, 0, none⟩), .pointer (some ⟨go, 0, none⟩), .pointer (some ⟨gm, 0, none⟩), .pointer (some ⟨wq.heap.size + 1, 0, none⟩)])] := by
          rw [hW1]
          have := Blk.new (wq.alloc (.cells #[.int .i64 0] 3)) 118 #[(.func (.func 111) #[] #[.pointer (some ⟨wq.heap.size, 0, none⟩), .pointer (some ⟨go, 0, none⟩), .pointer (some ⟨gm, 0, none⟩), .pointer (some ⟨wq.heap.size + 1, 0, none⟩)])]
          rwa [World.size_alloc] at this
        have cV := bV.cells.1 0
        rw [← hW1] at x1 c4 ⊢
        have cO1 := x1.cell c2n
        have hB1 := HB.out.ext x1
        have hx1 := HX.out.trans x1
        obtain ⟨gc, hgc⟩ : ∃ g, g = wq.heap.size := ⟨_, rfl⟩
        obtain ⟨gv, hgv⟩ : ∃ g, g = wq.heap.size + 1 := ⟨_, rfl⟩
        have n1 : gc ≠ gr := by have := HS9.out; have := HSW.out; omega
        have n4 : gv ≠ gr := by have := HS9.out; have := HSW.out; omega
        have m1 : go ≠ gc := by have := HS9.out; omega
        have m2 : gm ≠ gc := by have := HS9.out; have := HSW.out; omega
        have m3 : gv ≠ gc := by omega
        have hwr : w.heap.size ≤ gr := by have := HSW.out; omega
        have hwc : w.heap.size ≤ gc := by have := HS9.out; have := HSW.out; omega
        rw [← hgv, ← hgc] at cV
        rw [← hgc] at bC
        rw [← hgv, ← hgc]
        clear hW1 bV hgc hgv HS9 HB HX c2 c3 c2n c3n
        go_loopw [26] (fun i wr => ∃ (k : Nat) (l : List Int) (c : Int), k ≤ m.length ∧ i = .int .i64 k ∧ Out (linkM m) m.length k l c ∧ Blk wr gr 3 (l.map (Value.int .i64)) ∧ Blk wr gc 3 [.int .i64 c] ∧ wr.cell? ⟨go, 0, none⟩ = some (.slice (some ⟨gr, 0, none⟩) m.length m.length) ∧
          wr.cell? ⟨gm, 0, none⟩ = some (.slice A m.length cap) ∧ wr.cell? ⟨gv, 0, none⟩ = some (.func (.func 111) #[] #[.pointer (some ⟨gc, 0, none⟩), .pointer (some ⟨go, 0, none⟩), .pointer (some ⟨gm, 0, none⟩), .pointer (some ⟨gv, 0, none⟩)]) ∧ Ext w wr) (fun i _ => m.length - (intOf i).toNat)
        case atStart => exact ⟨0, _, 0, Nat.zero_le _, rfl, Out.start _ _, hB1, bC, cO1, c4, cV, hx1⟩
        case round =>
          clear hB1 bC cO1 c4 cV hx1 x1 cM cO HNEG
          obtain ⟨k, l, c, hk, rfl, hO, hB, bC, qO, qM, qV, hx⟩ := hrel
          have hcb := hO.c_le hk
          by_cases hlt : k < m.length
          · obtain ⟨c1, f1⟩ := blk_at hB (i := k) (by rw [hO.len]; exact hlt)
            have hlk : (k : Int) < (m.length : Int) := by omega
            obtain ⟨lk, hlkv⟩ : ∃ x, x = l.getD k 0 := ⟨_, rfl⟩
            rw [← hlkv] at c1
            by_cases hneg : lk < 0
            · have HCALL := hid (visit_c m HM.out w wr A cap gc go gm gv gr c HH.out hwr (bC.cells.1 0) qO qM qV n1 ne2 ne1 n4 (by omega) (negs m.length l) k l wr (Nat.le_refl _) hO.len hlt (by rw [← hlkv]; exact hneg) hB (fun _ _ => rfl) hx)
              have HV := hid (fun (l2 : List Int) (v : Vis (linkM m) m.length c k l l2) => hO.visit (fun a b h => linkM_symm HM.out h) hlt (by rw [← hlkv]; exact hneg) v)
              have HBC := hid bC
              have HQ := hid (And.intro qO (And.intro qM qV))
              have hc8 : c ≤ 8 := by omega
              clear hO hB hlkv bC f1
              go_wp2_with (go_at_call 111; refine (HCALL.out).mono ?_; rintro e w2 ⟨rfl, l2, hV, hB2, hA2, hx2⟩; have bC2 := HBC.out.keep (hA2 gc n1); have t1 := bC2.cells.1 0; have t2 := bC2.cells.2 0)
              have hs := bC2.setAt 0 (by show 0 < 1; decide) (.int .i64 (c + 1))
              go_roundw
              case rel => exact ⟨k + 1, l2, c + 1, by omega, by go_num, HV.out l2 hV, hB2.other (fun e => n1 e.symm), hs, (show (w2.setCell ⟨gc, 0, none⟩ (.int .i64 (c + 1))).cell? ⟨go, 0, none⟩ = _ from by
                have q := hA2.cell ne2 HQ.out.1
                exact (Agree.set (g := gc) (fun _ _ => rfl : Agree w2 w2 gc)).cell m1 q), (show (w2.setCell ⟨gc, 0, none⟩ (.int .i64 (c + 1))).cell? ⟨gm, 0, none⟩ = _ from by
                have q := hA2.cell ne1 HQ.out.2.1
                exact (Agree.set (g := gc) (fun _ _ => rfl : Agree w2 w2 gc)).cell m2 q), (show (w2.setCell ⟨gc, 0, none⟩ (.int .i64 (c + 1))).cell? ⟨gv, 0, none⟩ = _ from by
                have q := hA2.cell n4 HQ.out.2.2
                exact (Agree.set (g := gc) (fun _ _ => rfl : Agree w2 w2 gc)).cell m3 q), hx2.setCell hwc _⟩
              case measure => simp [intOf]; omega
            · have HS := hid (hO.skip hlt (by rw [← hlkv]; omega))
              have hneg2 : 0 ≤ lk := by omega
              have HB := hid hB
              have HBC := hid bC
              clear hO hlkv hneg hB bC f1
              go_wp2
              go_roundw
              case rel => exact ⟨k + 1, l, c, by omega, by go_num, HS.out, HB.out, HBC.out, qO, qM, qV, hx⟩
              case measure => simp [intOf]; omega
          · have hkn : k = m.length := by omega
            subst hkn
            have hfin := hO.fin (fun a b h => linkM_symm HM.out h) (fun a b h => ⟨h.1, h.2.1⟩)
            have hbd : ∀ x ∈ l, I64 x := fun x hx => by
              obtain ⟨j, hj, e⟩ := mem_getD hx
              rw [hO.len] at hj
              rcases hO.bd j hj with h | h <;> (rw [e] at h; unfold I64; omega)
            have hown := OwnSl.of_blk (R := intO) (xs := l) hB (by rw [hO.len]; unfold maxLen; omega) (ints_own l hbd wr)
            rw [hO.len] at hown
            have HOWN := hid (show OwnSl intO wr (.slice (some ⟨gr, 0, none⟩) m.length m.length) (posC m) [gr] from by rw [HP.out, ← hfin]; exact hown)
            clear hO hB bC hown hfin hbd
            go_wp2
            go_ret
            exact ⟨_, [gr], rfl, HOWN.out, ⟨by simp, fun b hb => by rw [List.mem_singleton] at hb; omega⟩, hx, fun h => by cases h⟩
end Go.Proofs.YtidchfncfcckiaaGreat
