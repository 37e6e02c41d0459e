/-
  WALKS: l17Links, l17Labels (the reference's).
-/
import Derived.Test.YtidchfncfcckiaaGreatMgEndClu2
import Derived.Test.YtidchfncfcckiaaGreatMgEndClu0
import Derived.Test.YtidchfncfcckiaaGreatMgEndClu3

namespace Go.Proofs.YtidchfncfcckiaaGreat
open Go.RowKit

/-! ### Tables of bools -/
def entB (m : List (List Bool)) (i k : Nat) : Bool := (m.getD i []).getD k false
def setB (m : List (List Bool)) (i k : Nat) (x : Bool) : List (List Bool) := m.set i ((m.getD i []).set k x)
def SqB (n : Nat) (m : List (List Bool)) : Prop := m.length = n ∧ ∀ i, i < n → (m.getD i []).length = n
theorem SqB.set {n : Nat} {m : List (List Bool)} (h : SqB n m) {i k : Nat} (hi : i < n) (x : Bool) : SqB n (setB m i k x) := by
  refine ⟨by unfold setB; rw [List.length_set]; exact h.1, fun a ha => ?_⟩
  unfold setB
  rw [getD_set _ _ _ _ (by rw [h.1]; exact hi)]
  split
  · rw [List.length_set]; exact h.2 i hi
  · exact h.2 a ha
theorem entB_set {n : Nat} {m : List (List Bool)} (h : SqB n m) {i k : Nat} (hi : i < n) (hk : k < n) (x : Bool) (a b : Nat) : entB (setB m i k x) a b = if a = i ∧ b = k then x else entB m a b := by
  unfold entB setB
  rw [getD_set _ _ _ _ (by rw [h.1]; exact hi)]
  by_cases ha : a = i
  · subst ha
    rw [if_pos rfl, getD_set _ _ _ _ (by rw [h.2 a hi]; exact hk)]
    by_cases hb : b = k
    · rw [if_pos hb, if_pos ⟨rfl, hb⟩]
    · rw [if_neg hb, if_neg fun e => hb e.2]
  · rw [if_neg ha, if_neg fun e => ha e.1]
def sqB (n : Nat) : List (List Bool) := List.replicate n (List.replicate n false)
theorem sqB_sq (n : Nat) : SqB n (sqB n) := by
  refine ⟨List.length_replicate, fun i hi => ?_⟩
  unfold sqB
  rw [getD_getElem (by rw [List.length_replicate]; exact hi), List.getElem_replicate, List.length_replicate]
theorem sqB_ent {n i k : Nat} (hi : i < n) (hk : k < n) : entB (sqB n) i k = false := by
  unfold entB sqB
  rw [getD_getElem (a := List.replicate n (List.replicate n false)) (by rw [List.length_replicate]; exact hi), List.getElem_replicate, getD_getElem (by rw [List.length_replicate]; exact hk), List.getElem_replicate]
theorem OwnSl.bool_store {w : World} {v : Value} {xs : List Bool} {F : List Nat} (h : OwnSl boolO w v xs F) (hN : F.Nodup) {i : Nat} (hi : i < xs.length) : ∃ g off cap, v = .slice (some ⟨g, off, none⟩) xs.length cap ∧ g ∈ F ∧
    w.cell? ⟨g, off + i, none⟩ = some (.bool xs[i]) ∧ w.frozen? ⟨g, off + i, none⟩ = false ∧ ∀ x, OwnSl boolO (w.setCell ⟨g, off + i, none⟩ (.bool x)) v (xs.set i x) F := by
  obtain ⟨g, off, cap, c, F1, rfl, hg, _, _, _, ⟨rfl, rfl⟩, _, hc, hf, _, hst⟩ := h.elem hN hi
  have h1 : boolO.n = 1 := rfl
  refine ⟨g, off, cap, rfl, hg, ?_, hf _, fun x => ?_⟩
  · simpa [h1] using hc 0 (by omega)
  · have := hst 0 (.bool x) x (by omega) ⟨rfl, rfl⟩
    simpa [h1] using this
theorem OwnSl.tabB {w : World} {G0 O0 n c1 : Nat} {U : List (List Bool)} {F : List Nat} (h : OwnSl (slO boolO) w (.slice (some ⟨G0, O0, none⟩) n c1) U F) (hN : F.Nodup) (hs : SqB n U) {p q : Nat} (hp : p < n) (hq : q < n) :
    ∃ b1 o1 cp1, w.cell? ⟨G0, O0 + p, none⟩ = some (.slice (some ⟨b1, o1, none⟩) n cp1) ∧ w.cell? ⟨b1, o1 + q, none⟩ = some (.bool (entB U p q)) ∧ w.frozen? ⟨b1, o1 + q, none⟩ = false ∧ b1 ∈ F ∧ G0 ≠ b1 ∧
      ∀ x, OwnSl (slO boolO) (w.setCell ⟨b1, o1 + q, none⟩ (.bool x)) (.slice (some ⟨G0, O0, none⟩) n c1) (setB U p q x) F := by
  have hUl := hs.1
  have hpU : p < U.length := by omega
  have hUr := hs.2 p hp
  rw [getD_getElem hpU] at hUr
  obtain ⟨g, off, cap, c, F1, eV, hg, hsub, hng, hN1, ⟨u, rfl, ho⟩, _, hc, hf, hin, _⟩ := h.elem hN hpU
  obtain ⟨b, o2, cap2, rfl, hb, hcell, hfr, hst⟩ := ho.bool_store hN1 (i := q) (by omega)
  rw [hUl] at eV
  injection eV with e9 q1 q2
  clear q1 q2
  injection e9 with e9
  injection e9 with e8 e7 q3
  clear q3
  subst e8; subst e7
  have h1 : (slO boolO).n = 1 := rfl
  have hc0 := hc 0 (by omega)
  rw [hUr] at hc0
  refine ⟨b, o2, cap2, by simpa [h1] using hc0, ?_, hfr, hsub b hb, fun e => hng (e ▸ hb), fun x => ?_⟩
  · unfold entB
    rw [getD_getElem hpU, getD_getElem (by omega)]
    exact hcell
  · have hM2 : setB U p q x = U.set p (U[p].set q x) := by unfold setB; rw [getD_getElem hpU]
    rw [hM2]
    exact hin _ _ (fun k _ hk => keep_setCell fun e => hk (e ▸ hb)) ⟨_, rfl, hst x⟩

theorem infoBoolS : (Tryz.prog.info? 4).map (fun i => (i.zero, i.size, i.bytes)) = some (some (.bool false), 1, 1) := by kernel_rfl
theorem infoBools : (Tryz.prog.info? 106).map (fun i => (i.zero, i.size, i.bytes)) = some (some (.slice none 0 0), 1, 24) := by kernel_rfl
theorem elemBools : ElemT Tryz.prog 104 106 (slO boolO).n 24 := by
  obtain ⟨i, h1, h2, h3, h4⟩ := info_parts infoBools
  exact ⟨Tryz.underlying104, i, _, h1, h2, h3, h4, rfl⟩
theorem falses_o (W : World) (n : Nat) (T : TypeId) (hn : n ≤ maxLen) : OwnSl boolO (W.alloc (.cells (List.replicate n (Value.bool false)).toArray T)) (.slice (some ⟨W.heap.size, 0, none⟩) n n) (List.replicate n false) [W.heap.size] := by
  have hc : ∀ n : Nat, OwnCells boolO (W.alloc (.cells (List.replicate n (Value.bool false)).toArray T)) (List.replicate n (.bool false)) (List.replicate n false) [] := by
    intro n
    generalize W.alloc (.cells (List.replicate n (Value.bool false)).toArray T) = W2
    induction n with
    | zero => exact .nil
    | succ n ih =>
      simp only [List.replicate_succ]
      exact ⟨[.bool false], _, [], [], rfl, rfl, ⟨rfl, rfl⟩, ih⟩
  have := OwnSl.of_blk (R := boolO) (xs := List.replicate n false) (Blk.new W T (List.replicate n (Value.bool false)).toArray) (by rw [List.length_replicate]; exact hn) (hc n)
  rwa [List.length_replicate] at this

set_option maxHeartbeats 1000000 in
set_option maxRecDepth 20000 in
theorem spec_l17Links (n : Nat) (w : World) (hn : n ≤ 8) :
    Calls Tryz.prog 99 #[.int .i64 n] w fun e w2 => ∃ v F, e = .returned v ∧ OwnSl (slO boolO) w2 v (sqB n) F ∧ NewF w F ∧ Ext w w2 := by
  obtain ⟨i1, hi1, hz3, hz4, hz5⟩ := info_parts infoBoolS
  have hmk1 := run_mk (P := Tryz.prog) 106 4 i1 _ [.bool false] 1 Tryz.underlying106 hi1 hz3 rfl hz4 hz5 n (by omega) (by omega)
  rw [flat_rep] at hmk1
  have HF := hid (fun (W : World) => falses_o W n 4 (by unfold maxLen; omega))
  obtain ⟨Z, hZ⟩ : ∃ Z, Z = (List.replicate n (Value.bool false)).toArray := ⟨_, rfl⟩
  rw [← hZ] at hmk1 HF
  clear hi1 hz3 hz4 hz5 hZ
  go_enter Tryz.func99, Tryz.ntmps99
  go_wp2
  go_loopw [3, 4] (fun t i wr => ∃ (k : Nat) (F : List Nat), k ≤ n ∧ i = .int .i64 k ∧ Bld (slO boolO) wr w.heap.size 106 t (List.replicate k (List.replicate n false)) F ∧ Ext w wr) (fun _ i _ => n - (intOf i).toNat)
  case atStart => exact ⟨0, [], Nat.zero_le _, rfl, Bld.lit w (Nat.le_refl _) _, (Ext.refl _).alloc _⟩
  case round =>
    obtain ⟨k, F, hk, rfl, hB, hx⟩ := hrel
    by_cases hlt : k < n
    · have x1 : Ext wr (wr.alloc (.cells Z 4)) := (Ext.refl _).alloc _
      have HB1 := hid (hB.ext x1)
      have hfr := hB.fresh (G := [wr.heap.size]) ⟨by simp, fun b hb => by rw [List.mem_singleton] at hb; omega⟩ hx.size
      have HFR := hid hfr
      have HLN := hid (show (List.replicate k (List.replicate n false)).length + 1 ≤ 1099511627776 by rw [List.length_replicate]; omega)
      have HO := hid (show (slO boolO).own (wr.alloc (.cells Z 4)) (#[Value.slice (some ⟨wr.heap.size, 0, none⟩) n n] : Array Value).toList (List.replicate n false) [wr.heap.size] from ⟨_, rfl, HF.out wr⟩)
      have HS := hid (Nat.le_trans hx.size x1.size)
      have HX1 := hid (hx.trans x1)
      clear hB x1 hfr
      go_wp2_with (at_builtin; refine wpList_app1 (R := slO boolO) elemBools Nat.one_pos rfl _ _ rfl HB1.out rfl _ 1 rfl (by simp) (one_slice _ _ _) HO.out HFR.out HLN.out (by decide) HS.out ?_; intro v9 w9 hB9 hE9)
      go_roundw
      case rel => exact ⟨k + 1, _, by omega, by go_num, by rw [List.replicate_succ']; exact hB9, hE9 w (Nat.le_refl _) HX1.out⟩
      case measure => simp [intOf]; omega
    · have hkn : k = n := by omega
      subst hkn
      obtain ⟨F', q1, q2, q3⟩ := hB.done
      clear hB
      go_wp2
      go_ret
      exact ⟨_, F', rfl, q1, ⟨q2, q3⟩, hx⟩
end Go.Proofs.YtidchfncfcckiaaGreat
