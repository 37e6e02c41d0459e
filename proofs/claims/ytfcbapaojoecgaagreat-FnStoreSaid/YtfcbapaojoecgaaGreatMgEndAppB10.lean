/-
  SEVERAL SMALL TEXTS LAID TOGETHER: InsR, OpS, RmV, ClR, Bat, StB, MarkOB, ClSto.
-/
import Derived.Test.YtfcbapaojoecgaaGreatMgEndAppB0
import Derived.Test.YtfcbapaojoecgaaGreatMgEndAppB8
import Derived.Test.YtfcbapaojoecgaaGreatMgEndAppB5
import Derived.Shelf.RegionOpenPlain
import Derived.Lib.Overlaps
import Derived.Lib.AppendZerosOnto
import Derived.Laws.Externs
import Derived.Laws.NewBlocks
import Derived.Test.YtfcbapaojoecgaaGreatMgEndAppB9
import Derived.Deep.RegionHeld3

namespace Go.Proofs.YtfcbapaojoecgaaGreat
open Go.RowKit

theorem elemRec : ElemT Tryz.prog 31 72 recordO.n 48 := by
  obtain ⟨i, h1, h2, h3, h4⟩ := info_parts infoRecord
  exact ⟨Tryz.underlying31, i, _, h1, h2, h3, h4, rfl⟩
set_option maxHeartbeats 4000000 in
set_option maxRecDepth 100000 in
theorem ins_shift_r (g n c i gv : Nat) (cs vs : List Value) (cur : Array Value) (w : World) (hi : i < n) (hroom : n + 1 ≤ c) (hcur : cur.size = c * 4) (hh : w.heap[g]? = some (.cells cur 72 (0, 0))) (hv : w.heap[gv]? = some (.cells vs.toArray 72 (0, 0))) (hvb : gv ≠ g) (hcs : cs = cur.toList.take (n * 4)) (hnc : n ≤ c) (hn : n ≤ 1048576) (hc63 : c ≤ 9223372036854775807)
    (hvl : vs.length = 4) (h1c : ∀ u ∈ cs, u.oneCell' = true) (h1v : ∀ u ∈ vs, u.oneCell' = true) :
    Calls Tryz.prog 99 #[.slice (some ⟨g, 0, none⟩) n c, .int .i64 i, .slice (some ⟨gv, 0, none⟩) 1 1] w fun e w' =>
      e = .returned (.slice (some ⟨g, 0, none⟩) (n + 1) c) ∧ w' = (w.drew.setCells g ((i + 1) * 4) (cs.drop (i * 4))).setCells g (i * 4) vs := by
  have hcl : cs.length = n * 4 := by rw [hcs, List.length_take, Array.length_toList, hcur]; omega
  have hz2 : ¬ ((i : Int) = (n : Int)) := by omega
  have hov : ∀ lb cb, (callFunc 138 #[.slice (some ⟨gv, 0, none⟩) 1 1, .slice (some ⟨g, (i + 1) * 4, none⟩) lb cb]).run Tryz.prog w = .ok (.value (.bool false)) w := fun lb cb => by
    rw [run_callFunc_extern Tryz.func138 (by kernel_rfl) (by kernel_rfl) (by kernel_rfl) (e := Extern.SlicesOverlaps.overlaps #[31, 31] #[4]) (by kernel_rfl),
      Lib.run_overlaps_apart w 31 4 72 Tryz.underlying31 4 (fun w => by kernel_rfl) ⟨gv, 0, none⟩ ⟨g, (i + 1) * 4, none⟩ 1 1 lb cb hvb 72 72 vs.length cur.size (by unfold World.shape?; rw [hv]; simp) (by unfold World.shape?; rw [hh]) (by omega) (frozen_of_row w gv 0 _ _ hv) (frozen_of_row w gv _ _ _ hv)]
    rfl
  have hcs2 : ∀ j v, cs[j]? = some v → w.cell? ⟨g, j, none⟩ = some v := fun j v hj => by
    have h1 := (List.getElem?_eq_some_iff.1 hj).1
    rw [cell_of_row w g j cur _ (0, 0) hh]
    rw [hcs, List.getElem?_take, if_pos (by omega)] at hj
    rw [← hj]; simp
  have hsp : ∀ (W : World) j, W.heap[g]? = w.heap[g]? → j < (n + 1) * 4 → (W.cell? ⟨g, j, none⟩).isSome = true := fun W j hW hj => by
    rw [cell_of_row W g j cur _ (0, 0) (hW.trans hh), Array.getElem?_eq_getElem (by omega)]; rfl
  have hfz : ∀ (W : World) j, W.heap[g]? = w.heap[g]? → W.frozen? ⟨g, j, none⟩ = false := fun W j hW => frozen_of_row W g j cur _ (hW.trans hh)
  have hsz : (Tryz.prog.info? 72).map (·.size) = some 4 := by
    obtain ⟨i0, z0, hi0, hz0, hsz0, _, _⟩ := elemRec.info
    rw [hi0]; simp [hsz0]; rfl
  have hdl : (cs.drop (i * 4)).length = (n - i) * 4 := by rw [List.length_drop, hcl]; omega
  have hcp1 : ∀ ty dc sc, (Builtin.copy_ #[31, 31] ty #[.slice (some ⟨g, (i + 1) * 4, none⟩) (n - i) dc, .slice (some ⟨g, i * 4, none⟩) (n + 1 - i) sc]).run Tryz.prog w.drew = .ok (goInt ((n - i : Nat) : Int)) (w.drew.setCells g ((i + 1) * 4) (cs.drop (i * 4))) := fun ty dc sc =>
    run_copy_many w.drew _ _ ty 72 4 (n - i) g ((i + 1) * 4) (n - i) dc ⟨g, i * 4, none⟩ (n + 1 - i) sc (cs.drop (i * 4)) Tryz.underlying31 hsz (by simp only [Nat.min_def]; split <;> omega) hdl
      (fun j v hj => by rw [add_eq]; exact hcs2 (i * 4 + j) v (by rwa [List.getElem?_drop] at hj))
      (fun j hj => hsp w.drew _ rfl (by rw [hdl] at hj; omega)) (fun j hj => hfz w.drew _ rfl) (fun v hv => h1c v (List.mem_of_mem_drop hv))
  obtain ⟨W1, hW1⟩ : ∃ W1, W1 = w.drew.setCells g ((i + 1) * 4) (cs.drop (i * 4)) := ⟨_, rfl⟩
  have hB1 : W1.heap[g]? = some (.cells (cur.toList.take ((i + 1) * 4) ++ (cs.drop (i * 4) ++ cur.toList.drop ((i + 1) * 4 + (cs.drop (i * 4)).length))).toArray 72 (0, 0)) := by
    rw [hW1]; exact heap_setCells _ _ w.drew cur hh (by rw [hdl]; omega)
  have hv1 : W1.heap[gv]? = some (.cells vs.toArray 72 (0, 0)) := by rw [hW1, setCells_keep hvb]; exact hv
  have hlB : (cur.toList.take ((i + 1) * 4) ++ (cs.drop (i * 4) ++ cur.toList.drop ((i + 1) * 4 + (cs.drop (i * 4)).length))).length = c * 4 := by simp only [List.length_append, List.length_take, List.length_drop, Array.length_toList]; omega
  have hcp2 : ∀ ty dc, (Builtin.copy_ #[31, 31] ty #[.slice (some ⟨g, i * 4, none⟩) (n + 1 - i) dc, .slice (some ⟨gv, 0, none⟩) 1 1]).run Tryz.prog W1 = .ok (goInt ((1 : Nat) : Int)) (W1.setCells g (i * 4) vs) := fun ty dc =>
    run_copy_many W1 _ _ ty 72 4 1 g (i * 4) (n + 1 - i) dc ⟨gv, 0, none⟩ 1 1 vs Tryz.underlying31 hsz (by simp only [Nat.min_def]; split <;> omega) (by rw [hvl])
      (fun j v hj => by rw [add_eq, Nat.zero_add, cell_of_row W1 gv j _ _ (0, 0) hv1]; simpa using hj)
      (fun j hj => by rw [cell_of_row W1 g _ _ _ (0, 0) hB1, List.getElem?_toArray, List.getElem?_eq_getElem (by rw [hlB]; omega)]; rfl)
      (fun j hj => frozen_of_row W1 g _ _ _ hB1) h1v
  rw [← hW1] at hcp1
  have mixed : Tryz.prog.follows .mixedOrders = true := by kernel_rfl
  have hw1 : IntKind.i64.wrap ((i : Int) + 1) = (i : Int) + 1 := by rw [IntKind.wrap_i64]; omega
  have hw2 : IntKind.i64.wrap ((n : Int) + 1) = (n : Int) + 1 := by rw [IntKind.wrap_i64]; omega
  have hb0 : i ≤ n := by omega
  have hb1 : (0 : Int) ≤ (i : Int) + 1 := by omega
  have hb2 : ¬ (c = i + 1) := by omega
  have hb3 : (i : Int) ≤ (n : Int) + 1 := by omega
  have hb4 : ¬ (c = i) := by omega
  have hb5 : ¬ ((c : Int) < (n : Int) + 1) := by omega
  have hb6 : (0 : Int) ≤ (n : Int) + 1 := by omega
  have hb7 : (n : Int) + 1 ≤ (c : Int) := by omega
  have HW := hid hW1
  clear hh hv hcs hcs2 hsp hfz hsz hdl hB1 hv1 hlB hcl hW1
  go_enter Tryz.func99, Tryz.ntmps99
  go_wp2_with (simp only [hov])
  go_region_law_o (refine step_copy_runI rfl _ _ 31 31 rfl _ _ (by simp [Act.eval, Act.put]) (by simp [Act.eval, Act.put]) (hcp1 _ _ _) ?_)
  go_wp2_with (at_builtin; refine wpList_copy_runI _ rfl _ _ 31 31 rfl _ _ rfl rfl (hcp2 _ _) ?_)
  go_ret
  exact ⟨rfl, by rw [HW.out]⟩

set_option maxHeartbeats 4000000 in
set_option maxRecDepth 100000 in
theorem ins_grow_r (g n c i gv : Nat) (cs vs : List Value) (cur : Array Value) (w : World) (hi : i < n) (hroom : c < n + 1) (hcur : cur.size = c * 4) (hh : w.heap[g]? = some (.cells cur 72 (0, 0))) (hv : w.heap[gv]? = some (.cells vs.toArray 72 (0, 0))) (hvb : gv ≠ g) (hcs : cs = cur.toList.take (n * 4)) (hnc : n ≤ c) (hn : n ≤ 1048576) (hc63 : c ≤ 9223372036854775807)
    (hvl : vs.length = 4) (h1c : ∀ u ∈ cs, u.oneCell' = true) (h1v : ∀ u ∈ vs, u.oneCell' = true) :
    Calls Tryz.prog 99 #[.slice (some ⟨g, 0, none⟩) n c, .int .i64 i, .slice (some ⟨gv, 0, none⟩) 1 1] w fun e w' =>
      ∃ G cur2, e = .returned (.slice (some ⟨w.heap.size, 0, none⟩) (n + 1) G) ∧ n + 1 ≤ G ∧ G ≤ maxLen ∧ w'.heap[w.heap.size]? = some (.cells cur2 72 (0, 0)) ∧ cur2.size = G * 4 ∧ cur2.toList.take ((n + 1) * 4) = cs.take (i * 4) ++ (vs ++ cs.drop (i * 4)) ∧ Ext w w' := by
  have hcl : cs.length = n * 4 := by rw [hcs, List.length_take, Array.length_toList, hcur]; omega
  have hz2 : ¬ ((i : Int) = (n : Int)) := by omega
  have hz3 : (c : Int) < (n : Int) + 1 := by omega
  obtain ⟨i0, z0, hi0, hz0, hsz0, hby0, hzc0⟩ := elemRec.info
  have hs4 : i0.size = 4 := hsz0
  have hzc4 : z0.cells.size = 4 := hzc0
  have hsz : (Tryz.prog.info? 72).map (·.size) = some 4 := by rw [hi0]; simp [hs4]
  have hgw : g < w.heap.size := block_lt hh
  have hvw : gv < w.heap.size := block_lt hv
  have hcs2 : ∀ (W : World), W.heap[g]? = w.heap[g]? → ∀ j v, cs[j]? = some v → W.cell? ⟨g, j, none⟩ = some v := fun W hW j v hj => by
    have h1 := (List.getElem?_eq_some_iff.1 hj).1
    rw [cell_of_row W g j cur _ (0, 0) (hW.trans hh)]
    rw [hcs, List.getElem?_take, if_pos (by omega)] at hj
    rw [← hj]; simp
  have hkk : (n : Int) + 1 - (i : Int) = ((n + 1 - i : Nat) : Int) := by omega
  have hik : i + (n + 1 - i) = n + 1 := by omega
  have hold : (Builtin.firstCells i0.size i (.slice (some ⟨g, 0, none⟩) i c)).run Tryz.prog w.drew = .ok (cs.take (i * 4)).toArray w.drew := by
    rw [hs4]
    exact run_firstCells_some w.drew 4 i ⟨g, 0, none⟩ i c (cs.take (i * 4)) (by rw [List.length_take]; omega) (fun j v hj => by
      rw [add_eq, Nat.zero_add]
      rw [List.getElem?_take] at hj
      split at hj
      · exact hcs2 w.drew rfl j v hj
      · cases hj)
  obtain ⟨G, hG⟩ : ∃ G, G = grownCap w (n + 1) c 72 := ⟨_, rfl⟩
  have hGn : n + 1 ≤ G := by rw [hG]; exact grownCap_ge w _ _ _
  have hG63 : G ≤ maxLen := by rw [hG]; exact grownCap_le_maxLen w (n + 1) c 72 (by unfold maxLen; omega)
  obtain ⟨ROW, hROW⟩ : ∃ ROW : Array Value, ROW = (cs.take (i * 4)).toArray ++ Builtin.zeroCells z0.cells (n + 1 - i) ++ Builtin.zeroCells z0.cells (G - (n + 1)) := ⟨_, rfl⟩
  have hrz : ∀ ty, (Builtin.append_ #[31, 3] ty #[.slice (some ⟨g, 0, none⟩) i c, .int .i64 ((n : Int) + 1 - (i : Int))]).run Tryz.prog w =
      .ok (.slice (some ⟨w.heap.size, 0, none⟩) (n + 1) G) (w.drew.alloc (.cells ROW 72)) := fun ty => by
    have h := Lib.run_append_grow_zeros w 31 3 ty 72 i0 z0 .i64 .i64 Tryz.underlying31 Tryz.underlying3 hi0 hz0 (some ⟨g, 0, none⟩) i c (cs.take (i * 4)) hold (n + 1 - i) (by omega) (by omega) (by omega) (by omega) (by rw [hby0]; omega) (by rw [hby0, hik]; exact growslice_fits hroom (by omega))
    rw [hik] at h
    rw [hkk, hROW, hG]
    exact h
  have hRs : ROW.size = G * 4 := by
    rw [hROW]
    simp only [Array.size_append, List.size_toArray, List.length_take, Builtin.zeroCells, Array.size_map, Array.size_range, hzc4]
    omega
  have hRt : ROW.toList.take (i * 4) = cs.take (i * 4) := by
    rw [hROW]
    simp only [Array.toList_append]
    rw [List.append_assoc, List.take_append_of_le_length (by simp; omega), List.take_of_length_le (by simp; omega)]
  obtain ⟨W1, hW1⟩ : ∃ W1, W1 = w.drew.alloc (.cells ROW 72) := ⟨_, rfl⟩
  rw [← hW1] at hrz
  have hN1 : W1.heap[w.heap.size]? = some (.cells ROW 72 (0, 0)) := by rw [hW1]; exact heap_alloc_new w.drew _
  have hX1 : Ext w W1 := by rw [hW1]; exact (Ext.refl w).drew.alloc _
  have hV1 : W1.heap[gv]? = some (.cells vs.toArray 72 (0, 0)) := (hX1.block hvw).trans hv
  have hO1 : W1.heap[g]? = w.heap[g]? := hX1.block hgw
  have hne1 : gv ≠ w.heap.size := by omega
  have hne2 : g ≠ w.heap.size := by omega
  have hdl : (cs.drop (i * 4)).length = (n - i) * 4 := by rw [List.length_drop, hcl]; omega
  have hcpA : ∀ (W : World), W.heap = W1.heap → ∀ ty dc, (Builtin.copy_ #[31, 31] ty #[.slice (some ⟨w.heap.size, i * 4, none⟩) (n + 1 - i) dc, .slice (some ⟨gv, 0, none⟩) 1 1]).run Tryz.prog W = .ok (goInt ((1 : Nat) : Int)) (W.setCells w.heap.size (i * 4) vs) := fun W hW ty dc => by
    have hn : W.heap[w.heap.size]? = some (.cells ROW 72 (0, 0)) := by rw [hW]; exact hN1
    have hv2 : W.heap[gv]? = some (.cells vs.toArray 72 (0, 0)) := by rw [hW]; exact hV1
    exact run_copy_many W _ _ ty 72 4 1 w.heap.size (i * 4) (n + 1 - i) dc ⟨gv, 0, none⟩ 1 1 vs Tryz.underlying31 hsz (by simp only [Nat.min_def]; split <;> omega) (by rw [hvl])
      (fun j v hj => by rw [add_eq, Nat.zero_add, cell_of_row W gv j _ _ (0, 0) hv2]; simpa using hj)
      (fun j hj => by rw [cell_of_row W _ _ _ _ (0, 0) hn, Array.getElem?_eq_getElem (by omega)]; rfl)
      (fun j hj => frozen_of_row W _ _ _ _ hn) h1v
  obtain ⟨W2, hW2⟩ : ∃ W2, W2 = W1.setCells w.heap.size (i * 4) vs := ⟨_, rfl⟩
  have hN2 : W2.heap[w.heap.size]? = some (.cells (ROW.toList.take (i * 4) ++ (vs ++ ROW.toList.drop (i * 4 + vs.length))).toArray 72 (0, 0)) := by rw [hW2]; exact heap_setCells _ _ W1 ROW hN1 (by omega)
  have hl2 : (ROW.toList.take (i * 4) ++ (vs ++ ROW.toList.drop (i * 4 + vs.length))).length = G * 4 := by simp only [List.length_append, List.length_take, List.length_drop, Array.length_toList]; omega
  have hO2 : W2.heap[g]? = w.heap[g]? := by rw [hW2, setCells_keep hne2]; exact hO1
  have hcpB : ∀ (W : World), W.heap = W2.heap → ∀ ty dc sc, (Builtin.copy_ #[31, 31] ty #[.slice (some ⟨w.heap.size, (i + 1) * 4, none⟩) (n - i) dc, .slice (some ⟨g, i * 4, none⟩) (n - i) sc]).run Tryz.prog W = .ok (goInt ((n - i : Nat) : Int)) (W.setCells w.heap.size ((i + 1) * 4) (cs.drop (i * 4))) := fun W hW ty dc sc => by
    have hn := (show W.heap[w.heap.size]? = W2.heap[w.heap.size]? by rw [hW]).trans hN2
    exact run_copy_many W _ _ ty 72 4 (n - i) w.heap.size ((i + 1) * 4) (n - i) dc ⟨g, i * 4, none⟩ (n - i) sc (cs.drop (i * 4)) Tryz.underlying31 hsz (by simp only [Nat.min_def]; split <;> omega) hdl
      (fun j v hj => by rw [add_eq]; exact hcs2 W (by rw [hW]; exact hO2) (i * 4 + j) v (by rwa [List.getElem?_drop] at hj))
      (fun j hj => by rw [cell_of_row W _ _ _ _ (0, 0) hn, List.getElem?_toArray, List.getElem?_eq_getElem (by rw [hl2]; omega)]; rfl)
      (fun j hj => frozen_of_row W _ _ _ _ hn) (fun v hv => h1c v (List.mem_of_mem_drop hv))
  have HE := hid (show ∀ (W : World), W.heap = (W2.setCells w.heap.size ((i + 1) * 4) (cs.drop (i * 4))).heap → ∃ cur2 : Array Value, W.heap[w.heap.size]? = some (.cells cur2 72 (0, 0)) ∧ cur2.size = G * 4 ∧ cur2.toList.take ((n + 1) * 4) = cs.take (i * 4) ++ (vs ++ cs.drop (i * 4)) ∧ ∀ b, b < w.heap.size → W.heap[b]? = w.heap[b]? from fun W hW => by
    have hn := heap_setCells (g := w.heap.size) (e := 72) (cs.drop (i * 4)) ((i + 1) * 4) W2 _ hN2 (by simp only [List.size_toArray, hl2, hdl]; omega)
    refine ⟨_, by rw [hW]; exact hn, ?_, ?_, fun b hb => ?_⟩
    · simp only [List.size_toArray, List.length_append, List.length_take, List.length_drop, hl2]; omega
    · have e1 : (ROW.toList.take (i * 4) ++ (vs ++ ROW.toList.drop (i * 4 + vs.length))).take ((i + 1) * 4) = cs.take (i * 4) ++ vs := by
        rw [hRt, ← List.append_assoc, List.take_append_of_le_length (by simp only [List.length_append, List.length_take]; omega), List.take_of_length_le (by simp only [List.length_append, List.length_take]; omega)]
      rw [List.toList_toArray, List.toList_toArray, e1, List.append_assoc, ← List.append_assoc, ← List.append_assoc, List.take_append_of_le_length (by simp only [List.length_append, List.length_take, hdl]; omega), List.take_of_length_le (by simp only [List.length_append, List.length_take, hdl]; omega), List.append_assoc]
    · rw [hW, setCells_keep (by omega), hW2, setCells_keep (by omega)]
      exact hX1.block hb)
  have hb0 : i ≤ n := by omega
  have mixed : Tryz.prog.follows .mixedOrders = true := by kernel_rfl
  have hw1 : IntKind.i64.wrap ((i : Int) + 1) = (i : Int) + 1 := by rw [IntKind.wrap_i64]; omega
  have hw2 : IntKind.i64.wrap ((n : Int) + 1) = (n : Int) + 1 := by rw [IntKind.wrap_i64]; omega
  have hb1 : (0 : Int) ≤ (i : Int) + 1 := by omega
  have hb3 : (i : Int) ≤ (n : Int) := by omega
  have hb4 : ¬ (c = i) := by omega
  have hGi : ¬ (G = i) := by omega
  have hGj : ¬ (G = i + 1) := by omega
  have hGk : (i : Int) ≤ (n : Int) + 1 := by omega
  have HG := hid (And.intro hGn hG63)
  have HW1 := hid hW1
  have HW2 := hid hW2
  have hGm : G ≤ 9223372036854775807 := by unfold maxLen at hG63; omega
  clear hh hv hcs hcs2 hold hkk hik hG hROW hRs hRt hN1 hX1 hV1 hO1 hdl hN2 hl2 hO2 hcl hsz hG63 hW2
  go_enter Tryz.func99, Tryz.ntmps99
  go_wp2_with (first
    | (at_builtin; refine Lib.wpList_append_run _ rfl _ _ _ _ rfl _ _ rfl rfl _ _ (hrz _) ?_)
    | (at_builtin; refine wpList_copy_runI _ rfl _ _ 31 31 rfl _ _ rfl rfl (hcpA _ (by first | rfl | (rw [HW1.out]; rfl)) _ _) ?_))
  go_region_law_o (refine step_copy_runI rfl _ _ 31 31 rfl (.slice (some ⟨w.heap.size, (i + 1) * 4, none⟩) (n - i) (G - (i + 1))) (.slice (some ⟨g, i * 4, none⟩) (n - i) (c - i)) (by simp [Act.eval, Act.put]) (by simp [Act.eval, Act.put]) (hcpB _ (by first | (rw [HW2.out]; rfl) | (rw [HW2.out, HW1.out]; rfl)) 3 (G - (i + 1)) (c - i)) ?_)
  go_wp2
  go_ret
  obtain ⟨cur2, c1, c2, c3, _⟩ := HE.out (((w.alloc (.cells ROW 72)).drew.setCells w.heap.size (i * 4) vs).drew.setCells w.heap.size ((i + 1) * 4) (cs.drop (i * 4))) (setCells_heap _ _ (by rw [HW2.out, HW1.out]; rfl))
  refine ⟨G, cur2, rfl, HG.out.1, HG.out.2, c1, c2, c3, ?_⟩
  try rw [HW1.out]
  repeat (first | exact Ext.refl _ | refine Ext.drew ?_ | refine Ext.alloc ?_ _ | refine Ext.setCells (Nat.le_refl _) _ _ ?_)

/-- slices.Insert of one element, cell by cell -/
theorem slices_Insert_r (v : Value) (cs c : List Value) (n i base gv : Nat) (w : World) (h : w.ownsRow base 72 4 v n cs) (hi : i ≤ n) (hn : n ≤ 1048576) (hb : base ≤ w.heap.size) (hc4 : c.length = 4)
    (hv : w.heap[gv]? = some (.cells c.toArray 72 (0, 0))) (hne : v.ownBlock ≠ some gv) (h1c : ∀ u ∈ cs, u.oneCell' = true) (h1v : ∀ u ∈ c, u.oneCell' = true) :
    Calls Tryz.prog 99 #[v, .int .i64 i, .slice (some ⟨gv, 0, none⟩) 1 1] w fun e w2 => ∃ v2, e = .returned v2 ∧ w2.ownsRow base 72 4 v2 (n + 1) (cs.take (i * 4) ++ (c ++ cs.drop (i * 4))) ∧
      (∀ w0 : World, w0.heap.size ≤ base → Ext w0 w → Ext w0 w2) ∧ (∀ b, b < w.heap.size → v.ownBlock ≠ some b → w2.heap[b]? = w.heap[b]?) ∧ w.heap.size ≤ w2.heap.size ∧ (v2.ownBlock = v.ownBlock ∨ v2.ownBlock = some w.heap.size) := by
  by_cases hin : i < n
  · rcases h.2 with ⟨_, h0⟩ | ⟨g, cap, cur, rfl, hbg, hh, hnc, hcm, hcs, htk⟩
    · omega
    · have hgv : gv ≠ g := fun e => hne (by rw [e]; rfl)
      have hc63 : cap ≤ 9223372036854775807 := by unfold maxLen at hcm; omega
      have hcl : cs.length = n * 4 := h.1
      have hcul : cur.toList.length = cap * 4 := by rw [Array.length_toList]; exact hcs
      by_cases hroom : n + 1 ≤ cap
      · refine (ins_shift_r g n cap i gv cs c cur w hin hroom hcs hh hv hgv htk.symm hnc hn hc63 hc4 h1c h1v).mono ?_
        rintro e w2 ⟨rfl, rfl⟩
        have hdl : (cs.drop (i * 4)).length = (n - i) * 4 := by rw [List.length_drop, hcl]; omega
        have hB1 := heap_setCells (g := g) (e := 72) (cs.drop (i * 4)) ((i + 1) * 4) w.drew cur hh (by rw [hdl]; omega)
        have hlB : (cur.toList.take ((i + 1) * 4) ++ (cs.drop (i * 4) ++ cur.toList.drop ((i + 1) * 4 + (cs.drop (i * 4)).length))).length = cap * 4 := by simp only [List.length_append, List.length_take, List.length_drop, Array.length_toList]; omega
        have hB2 := heap_setCells (g := g) (e := 72) c (i * 4) _ _ hB1 (by simp only [List.size_toArray, hlB, hc4]; omega)
        refine ⟨_, rfl, ⟨?_, .inr ⟨g, cap, _, rfl, hbg, hB2, hroom, hcm, ?_, ?_⟩⟩, fun w0 h0 hx => ?_, fun b hb2 hne2 => ?_, ?_, .inl rfl⟩
        · simp only [List.length_append, List.length_take, List.length_drop, hcl, hc4]; omega
        · simp only [List.size_toArray, List.length_append, List.length_take, List.length_drop, hlB, hc4]; omega
        · have e1 : (cur.toList.take ((i + 1) * 4) ++ (cs.drop (i * 4) ++ cur.toList.drop ((i + 1) * 4 + (cs.drop (i * 4)).length))).take (i * 4) = cs.take (i * 4) := by
            rw [List.take_append_of_le_length (by rw [List.length_take, hcul]; omega), List.take_take, Nat.min_eq_left (by omega), ← htk, List.take_take, Nat.min_eq_left (by omega)]
          have e2 : (cur.toList.take ((i + 1) * 4) ++ (cs.drop (i * 4) ++ cur.toList.drop ((i + 1) * 4 + (cs.drop (i * 4)).length))).drop (i * 4 + c.length) = cs.drop (i * 4) ++ cur.toList.drop ((i + 1) * 4 + (cs.drop (i * 4)).length) := by
            rw [hc4, show i * 4 + 4 = (i + 1) * 4 by omega, List.drop_append_of_le_length (by rw [List.length_take, hcul]; omega), List.drop_of_length_le (by rw [List.length_take, hcul]; omega), List.nil_append]
          rw [List.toList_toArray, List.toList_toArray, e1, e2, ← List.append_assoc c, ← List.append_assoc, List.take_append_of_le_length (by simp only [List.length_append, List.length_take, hdl, hcl, hc4]; omega), List.take_of_length_le (by simp only [List.length_append, List.length_take, hdl, hcl, hc4]; omega)]
        · exact Ext.setCells (Nat.le_trans h0 hbg) _ _ (Ext.setCells (Nat.le_trans h0 hbg) _ _ hx.drew)
        · have hbg2 : b ≠ g := fun e => hne2 (by rw [e]; rfl)
          rw [setCells_keep hbg2, setCells_keep hbg2]; rfl
        · rw [setCells_size, setCells_size]; exact Nat.le_refl _
      · refine (ins_grow_r g n cap i gv cs c cur w hin (by omega) hcs hh hv hgv htk.symm hnc hn hc63 hc4 h1c h1v).mono ?_
        rintro e w2 ⟨G, cur2, rfl, hG1, hG2, hN, hs2, ht2, hx2⟩
        exact ⟨_, rfl, ⟨by simp only [List.length_append, List.length_take, List.length_drop, hcl, hc4]; omega, .inr ⟨w.heap.size, G, cur2, rfl, hb, hN, hG1, hG2, hs2, ht2⟩⟩, fun w0 h0 hx => hx.trans hx2, fun b hb2 _ => hx2.block hb2, hx2.size, .inr rfl⟩
  · obtain rfl : i = n := by omega
    have hlt := h.lt
    have hcl : cs.length = i * 4 := h.1
    obtain ⟨i0, z0, hi0, hz0, hsz0, hby0, hzc0⟩ := elemRec.info
    have e1 : cs.take (i * 4) ++ (c ++ cs.drop (i * 4)) = cs ++ c := by rw [List.take_of_length_le (by omega), List.drop_of_length_le (by omega), List.append_nil]
    rw [e1]
    obtain ⟨A, cap, hvA, hcap⟩ : ∃ A cap, v = .slice A i cap ∧ cap ≤ 9223372036854775807 := by
      rcases h.2 with ⟨rfl, h0⟩ | ⟨g, cap, cur, rfl, _, _, _, hcm, _⟩
      · exact ⟨none, 0, by rw [h0], by omega⟩
      · exact ⟨_, _, rfl, by unfold maxLen at hcm; omega⟩
    have hcap2 : i ≤ cap := by
      rcases h.2 with ⟨rfl, h0⟩ | ⟨g, cap2, cur, rfl, _, _, hnc, _, _⟩
      · omega
      · injection hvA with _ _ e; omega
    have HO := hid h
    have HL := hid hlt
    rw [hvA] at HO HL ⊢
    have hbb : (i : Int) ≤ (cap : Int) := by omega
    clear hvA h hlt hne e1
    by_cases hci : cap = i
    · replace hci := hci.symm
      subst hci
      go_enter Tryz.func99, Tryz.ntmps99
      go_wp2_with (at_builtin; refine wpList_append_own_at w rfl _ _ 31 rfl base 72 i0 z0 4 48 Tryz.underlying31 hi0 hz0 hsz0 hby0 hzc0 (by decide) (.slice A i i) i cs rfl HO.out ⟨gv, 0, none⟩ 1 1 c rfl (by rw [hc4]) (fun j u hj => by rw [add_eq, Nat.zero_add, cell_of_row w gv j _ _ (0, 0) hv]; simpa using hj) h1v (by unfold maxLen; omega) (by omega) hb ?_; intro v9 w9 hown hgr _ hat)
      go_ret
      exact ⟨_, rfl, hown, fun w0 h0 hx => hx.grown hgr fun g hg => Nat.le_trans h0 (HL.out g hg).1, fun b hb2 hne2 => hgr.block b hb2 (fun e => hne2 e.symm), hgr.size, hat⟩
    · skip
      go_enter Tryz.func99, Tryz.ntmps99
      go_wp2_with (at_builtin; refine wpList_append_own_at w rfl _ _ 31 rfl base 72 i0 z0 4 48 Tryz.underlying31 hi0 hz0 hsz0 hby0 hzc0 (by decide) (.slice A i cap) i cs rfl HO.out ⟨gv, 0, none⟩ 1 1 c rfl (by rw [hc4]) (fun j u hj => by rw [add_eq, Nat.zero_add, cell_of_row w gv j _ _ (0, 0) hv]; simpa using hj) h1v (by unfold maxLen; omega) (by omega) hb ?_; intro v9 w9 hown hgr _ hat)
      go_ret
      exact ⟨_, rfl, hown, fun w0 h0 hx => hx.grown hgr fun g hg => Nat.le_trans h0 (HL.out g hg).1, fun b hb2 hne2 => hgr.block b hb2 (fun e => hne2 e.symm), hgr.size, hat⟩

end Go.Proofs.YtfcbapaojoecgaaGreat

namespace Go.Proofs.YtfcbapaojoecgaaGreat
open Go.RowKit

theorem Sl.op {w : World} {A : Option Addr} {n cap : Nat} {xs : List Op} (h : Sl opR w (.slice A n cap) xs) {i : Nat} (hi : i < xs.length) :
    ∃ b off A2 cap2, A = some ⟨b, off, none⟩ ∧ xs[i].ok ∧ Sl strR w (.slice A2 xs[i].record.fields.length cap2) xs[i].record.fields ∧ w.cell? ⟨b, off + i * 9, none⟩ = some (.int .i64 xs[i].kind) ∧ w.cell? ⟨b, off + i * 9 + 1, none⟩ = some (.int .i64 xs[i].record.source) ∧ w.cell? ⟨b, off + i * 9 + 2, none⟩ = some (.int .i64 xs[i].record.key) ∧ w.cell? ⟨b, off + i * 9 + 3, none⟩ = some (.int .i64 xs[i].record.version) ∧ w.cell? ⟨b, off + i * 9 + 4, none⟩ = some (.slice A2 xs[i].record.fields.length cap2) ∧ w.cell? ⟨b, off + i * 9 + 5, none⟩ = some (.int .i64 xs[i].verdict.a) ∧ w.cell? ⟨b, off + i * 9 + 6, none⟩ = some (.int .i64 xs[i].verdict.b) ∧ w.cell? ⟨b, off + i * 9 + 7, none⟩ = some (.bool xs[i].verdict.same) ∧ w.cell? ⟨b, off + i * 9 + 8, none⟩ = some (.int .i64 xs[i].verdict.time) := by
  obtain ⟨b, off, cs, rfl, ⟨m, rfl, hok, hs⟩, hc⟩ := h.at_ hi
  have hs' := hs
  obtain ⟨A2, cap2, rfl, _⟩ := hs
  exact ⟨b, off, A2, cap2, rfl, hok, hs', by simpa [opR, Op.cells] using hc 0 (by simp [opR]), by simpa [opR, Op.cells] using hc 1 (by simp [opR]), by simpa [opR, Op.cells] using hc 2 (by simp [opR]), by simpa [opR, Op.cells] using hc 3 (by simp [opR]), by simpa [opR, Op.cells] using hc 4 (by simp [opR]), by simpa [opR, Op.cells] using hc 5 (by simp [opR]), by simpa [opR, Op.cells] using hc 6 (by simp [opR]), by simpa [opR, Op.cells] using hc 7 (by simp [opR]), by simpa [opR, Op.cells] using hc 8 (by simp [opR])⟩

set_option maxHeartbeats 400000 in
theorem szOpS_c (v : Value) (xs : List Op) (left : Int) (w : World) (h : Sl opR w v xs) (h0 : 0 ≤ left) (h1 : left ≤ 1048576) :
    Calls Tryz.prog 33 #[v, .int .i64 left] w fun e w2 => e = .returned (.int .i64 (szv ((xs.length + sumBy msOp xs : Nat) : Int) left)) ∧ Ext w w2 := by
  obtain ⟨A, cap, rfl, hm⟩ := h.form
  by_cases hlt : left < xs.length
  · go_enter Tryz.func33, Tryz.ntmps33
    go_wp2
    go_ret
    exact ⟨ret_int (by symm; unfold szv; rw [if_pos (by omega)]), Ext.refl _⟩
  · go_enter Tryz.func33, Tryz.ntmps33
    go_wp2
    go_loopw [1, 5] (fun l i wr => ∃ k : Nat, k ≤ xs.length ∧ i = .int .i64 k ∧ sumBy msOp (xs.take k) + xs.length ≤ left ∧ l = .int .i64 (left - xs.length - (sumBy msOp (xs.take k) : Nat)) ∧ Ext w wr) (fun _ i _ => xs.length - (intOf i).toNat)
    case atStart => exact ⟨0, Nat.zero_le _, rfl, by simp [sumBy]; omega, by simp [sumBy], Ext.refl _⟩
    case round =>
      obtain ⟨k, hk, rfl, hs, rfl, hx⟩ := hrel
      by_cases hlk : k < xs.length
      · obtain ⟨b, off, A2, cap2, rfl, hok, hsl, hc0, hc1, hc2, hc3, hc4, hc5, hc6, hc7, hc8⟩ := (h.mono hx).op hlk
        have hst := sumBy_take msOp xs k hlk
        have hsa := sumBy_at msOp xs k hlk
        have HS := hid hst
        clear hst
        go_wp2_with fail
        refine (szOp_c _ xs[k] _ _ ⟨_, rfl, hok, hsl⟩ (by omega) (by omega)).mono ?_
        rintro e w2 ⟨rfl, x2⟩
        obtain ⟨M, hM⟩ : ∃ M, M = msOp xs[k] := ⟨_, rfl⟩
        rw [show ((msOp xs[k] : Nat) : Int) = (M : Int) by rw [hM]]
        rw [← hM] at hsa
        have HM := hid hM
        clear hM hok
        by_cases hfit : left - xs.length - (sumBy msOp (xs.take k) : Nat) < M
        · rw [show szv (M : Int) (left - xs.length - (sumBy msOp (xs.take k) : Nat)) = -1 by simp [szv, hfit]]
          go_wp2
          go_ret
          exact ⟨ret_int (by symm; unfold szv; rw [if_pos (by omega)]), hx.trans x2⟩
        · rw [show szv (M : Int) (left - xs.length - (sumBy msOp (xs.take k) : Nat)) = left - xs.length - (sumBy msOp (xs.take k) : Nat) - M by simp [szv, hfit]]
          go_wp2
          go_roundw
          case rel => exact ⟨k + 1, by omega, by go_num, by rw [HS.out, ← HM.out]; omega, by rw [HS.out, ← HM.out]; congr 1; omega, hx.trans x2⟩
          case measure => simp [intOf]; omega
      · go_wp2
        go_ret
        rw [List.take_of_length_le (by omega)] at hs
        exact ⟨ret_int (by rw [List.take_of_length_le (by omega)]; unfold szv; rw [if_neg (by omega)]; omega), hx⟩

theorem infoOp : (Tryz.prog.info? 76).map (fun i => (i.zero, i.size, i.bytes)) = some (some (.agg #[.int .i64 0, .int .i64 0, .int .i64 0, .int .i64 0, .slice none 0 0, .int .i64 0, .int .i64 0, .bool false, .int .i64 0]), 9, 88) := by kernel_rfl
def opZ : List Value := [.int .i64 0, .int .i64 0, .int .i64 0, .int .i64 0, .slice none 0 0, .int .i64 0, .int .i64 0, .bool false, .int .i64 0]

set_option maxHeartbeats 400000 in
set_option maxRecDepth 100000 in
theorem toOpS_c (v : Value) (xs : List Op) (w : World) (h : Sl opR w v xs) (hb : xs.length + sumBy msOp xs ≤ 1048576) :
    Calls Tryz.prog 44 #[v] w fun e w2 => ∃ v2 F, e = .returned v2 ∧ OwnSl opO w2 v2 xs F ∧ NewF w F ∧ Ext w w2 := by
  obtain ⟨A, cap, rfl, hm⟩ := h.form
  obtain ⟨i0, hi0, hz0, hz1, hz2⟩ := info_parts infoOp
  have hmk := run_mk (P := Tryz.prog) 38 76 i0 _ opZ 88 Tryz.underlying38 hi0 hz0 rfl hz1 hz2 xs.length (by omega) hm
  go_enter Tryz.func44, Tryz.ntmps44
  go_wp2
  go_loopw [4] (fun i wr => ∃ (k : Nat) (done : List Value) (F : List Nat), k ≤ xs.length ∧ i = .int .i64 k ∧ Blk wr w.heap.size 76 (done ++ (List.replicate (xs.length - k) opZ).flatten) ∧
    OwnCells opO wr done (xs.take k) F ∧ FromF w.heap.size F ∧ Ext w wr) (fun i _ => xs.length - (intOf i).toNat)
  case atStart => exact ⟨0, [], [], Nat.zero_le _, rfl, by simpa using Blk.new w 76 (List.replicate xs.length opZ).flatten.toArray, .nil, .nil _, (Ext.refl _).alloc _⟩
  case round =>
    obtain ⟨k, done, F, hk, rfl, hblk, hown, hF, hx⟩ := hrel
    by_cases hlt : k < xs.length
    · obtain ⟨b, off, A2, cap2, rfl, hok, hsl, hc0, hc1, hc2, hc3, hc4, hc5, hc6, hc7, hc8⟩ := (h.mono hx).op hlt
      have hz : (List.replicate (xs.length - k) opZ).flatten = .int .i64 0 :: .int .i64 0 :: .int .i64 0 :: .int .i64 0 :: .slice none 0 0 :: .int .i64 0 :: .int .i64 0 :: .bool false :: .int .i64 0 :: (List.replicate (xs.length - (k + 1)) opZ).flatten := by
        rw [show xs.length - k = (xs.length - (k + 1)) + 1 by omega, List.replicate_succ]; rfl
      rw [hz] at hblk
      clear hz
      have hl : done.length = k * 9 := by rw [hown.length]; simp [opO, opR]; omega
      have hgl := block_lt hblk.out
      have HL := hid hl
      have hbk : xs[k].record.fields.length ≤ 1048576 := by have := sumBy_at msOp xs k hlt; simp only [msOp] at this; omega
      clear hl
      go_wp2_with fail
      refine (toOp_c _ xs[k] _ ⟨_, rfl, hok, hsl⟩ hbk).mono ?_
      rintro e w2 ⟨v2, F2, rfl, ⟨m2, rfl, _, ho⟩, hn, x2⟩
      have hblk2 := hblk.ext x2
      obtain ⟨A3, cap3, e3, _⟩ := ho.form
      subst e3
      obtain ⟨p0, q0⟩ := hblk2.at_ HL.out
      have b0 := hblk2.store HL.out (Value.int .i64 xs[k].kind)
      have l0 : (done ++ [(Value.int .i64 xs[k].kind)]).length = k * 9 + 1 := by rw [List.length_append, HL.out]; rfl
      obtain ⟨p1, q1⟩ := b0.at_ l0
      have b1 := b0.store l0 (Value.int .i64 xs[k].record.source)
      have l1 : (done ++ [(Value.int .i64 xs[k].kind)] ++ [(Value.int .i64 xs[k].record.source)]).length = k * 9 + 2 := by rw [List.length_append, l0]; rfl
      obtain ⟨p2, q2⟩ := b1.at_ l1
      have b2 := b1.store l1 (Value.int .i64 xs[k].record.key)
      have l2 : (done ++ [(Value.int .i64 xs[k].kind)] ++ [(Value.int .i64 xs[k].record.source)] ++ [(Value.int .i64 xs[k].record.key)]).length = k * 9 + 3 := by rw [List.length_append, l1]; rfl
      obtain ⟨p3, q3⟩ := b2.at_ l2
      have b3 := b2.store l2 (Value.int .i64 xs[k].record.version)
      have l3 : (done ++ [(Value.int .i64 xs[k].kind)] ++ [(Value.int .i64 xs[k].record.source)] ++ [(Value.int .i64 xs[k].record.key)] ++ [(Value.int .i64 xs[k].record.version)]).length = k * 9 + 4 := by rw [List.length_append, l2]; rfl
      obtain ⟨p4, q4⟩ := b3.at_ l3
      have b4 := b3.store l3 (Value.slice A3 xs[k].record.fields.length cap3)
      have l4 : (done ++ [(Value.int .i64 xs[k].kind)] ++ [(Value.int .i64 xs[k].record.source)] ++ [(Value.int .i64 xs[k].record.key)] ++ [(Value.int .i64 xs[k].record.version)] ++ [(Value.slice A3 xs[k].record.fields.length cap3)]).length = k * 9 + 5 := by rw [List.length_append, l3]; rfl
      obtain ⟨p5, q5⟩ := b4.at_ l4
      have b5 := b4.store l4 (Value.int .i64 xs[k].verdict.a)
      have l5 : (done ++ [(Value.int .i64 xs[k].kind)] ++ [(Value.int .i64 xs[k].record.source)] ++ [(Value.int .i64 xs[k].record.key)] ++ [(Value.int .i64 xs[k].record.version)] ++ [(Value.slice A3 xs[k].record.fields.length cap3)] ++ [(Value.int .i64 xs[k].verdict.a)]).length = k * 9 + 6 := by rw [List.length_append, l4]; rfl
      obtain ⟨p6, q6⟩ := b5.at_ l5
      have b6 := b5.store l5 (Value.int .i64 xs[k].verdict.b)
      have l6 : (done ++ [(Value.int .i64 xs[k].kind)] ++ [(Value.int .i64 xs[k].record.source)] ++ [(Value.int .i64 xs[k].record.key)] ++ [(Value.int .i64 xs[k].record.version)] ++ [(Value.slice A3 xs[k].record.fields.length cap3)] ++ [(Value.int .i64 xs[k].verdict.a)] ++ [(Value.int .i64 xs[k].verdict.b)]).length = k * 9 + 7 := by rw [List.length_append, l5]; rfl
      obtain ⟨p7, q7⟩ := b6.at_ l6
      have b7 := b6.store l6 (Value.bool xs[k].verdict.same)
      have l7 : (done ++ [(Value.int .i64 xs[k].kind)] ++ [(Value.int .i64 xs[k].record.source)] ++ [(Value.int .i64 xs[k].record.key)] ++ [(Value.int .i64 xs[k].record.version)] ++ [(Value.slice A3 xs[k].record.fields.length cap3)] ++ [(Value.int .i64 xs[k].verdict.a)] ++ [(Value.int .i64 xs[k].verdict.b)] ++ [(Value.bool xs[k].verdict.same)]).length = k * 9 + 8 := by rw [List.length_append, l6]; rfl
      obtain ⟨p8, q8⟩ := b7.at_ l7
      have b8 := b7.store l7 (Value.int .i64 xs[k].verdict.time)
      have hk2 : ∀ b, b ≠ w.heap.size → (((((((((w2.setCell ⟨w.heap.size, k * 9, none⟩ (Value.int .i64 xs[k].kind)).setCell ⟨w.heap.size, k * 9 + 1, none⟩ (Value.int .i64 xs[k].record.source)).setCell ⟨w.heap.size, k * 9 + 2, none⟩ (Value.int .i64 xs[k].record.key)).setCell ⟨w.heap.size, k * 9 + 3, none⟩ (Value.int .i64 xs[k].record.version)).setCell ⟨w.heap.size, k * 9 + 4, none⟩ (Value.slice A3 xs[k].record.fields.length cap3)).setCell ⟨w.heap.size, k * 9 + 5, none⟩ (Value.int .i64 xs[k].verdict.a)).setCell ⟨w.heap.size, k * 9 + 6, none⟩ (Value.int .i64 xs[k].verdict.b)).setCell ⟨w.heap.size, k * 9 + 7, none⟩ (Value.bool xs[k].verdict.same)).setCell ⟨w.heap.size, k * 9 + 8, none⟩ (Value.int .i64 xs[k].verdict.time)).heap[b]? = w2.heap[b]? :=
        fun b hb => ((keep_setCell hb).trans ((keep_setCell hb).trans ((keep_setCell hb).trans ((keep_setCell hb).trans ((keep_setCell hb).trans ((keep_setCell hb).trans ((keep_setCell hb).trans ((keep_setCell hb).trans (keep_setCell hb)))))))))
      obtain ⟨ho3, hF3⟩ := hown.step (R := opO) hF x2 ⟨_, rfl, hok, ho⟩ hn hgl hk2
      have HK := hid (And.intro ho3 hF3)
      have HST := hid b8
      clear hblk hblk2 HL b0 b1 b2 b3 b4 b5 b6 b7 b8 l0 l1 l2 l3 l4 l5 l6 l7 hk2 ho3 hF3 hok
      go_wp2
      go_roundw
      case rel => exact ⟨k + 1, done ++ [(Value.int .i64 xs[k].kind), (Value.int .i64 xs[k].record.source), (Value.int .i64 xs[k].record.key), (Value.int .i64 xs[k].record.version), (Value.slice A3 xs[k].record.fields.length cap3), (Value.int .i64 xs[k].verdict.a), (Value.int .i64 xs[k].verdict.b), (Value.bool xs[k].verdict.same), (Value.int .i64 xs[k].verdict.time)], F ++ F2, by omega, by go_num, by simpa using HST.out, by rw [List.take_succ_eq_append_getElem hlt]; simpa [Op.cells] using HK.out.1, HK.out.2, ((((((((((hx.trans x2).setCell (by simp) _).setCell (by simp) _).setCell (by simp) _).setCell (by simp) _).setCell (by simp) _).setCell (by simp) _).setCell (by simp) _).setCell (by simp) _).setCell (by simp) _)⟩
      case measure => simp [intOf]; omega
    · go_wp2
      go_ret
      rw [show xs.length - k = 0 by omega, List.replicate_zero, List.flatten_nil, List.append_nil] at hblk
      rw [List.take_of_length_le (by omega)] at hown
      exact ⟨_, _, rfl, OwnSl.of_blk hblk (by unfold maxLen; omega) hown, hF.new rfl, hx⟩

set_option maxHeartbeats 400000 in
set_option maxRecDepth 20000 in
theorem eqOpS_c (v u : Value) (xs ys : List Op) (w : World) (h : Sl opR w v xs) (k : Sl opR w u ys) :
    Calls Tryz.prog 58 #[v, u] w fun e w2 => e = .returned (.bool (eqB xs ys)) ∧ Ext w w2 := by
  obtain ⟨A, cap, rfl, hm⟩ := h.form
  obtain ⟨B, cap2, rfl, hm2⟩ := k.form
  by_cases hl : xs.length = ys.length
  · have hl' : ((xs.length : Int) != (ys.length : Int)) = false := by simp [hl]
    have HL := hid hl
    clear hl
    go_enter Tryz.func58, Tryz.ntmps58
    go_wp2
    go_loopw [5] (fun i wr => ∃ k2 : Nat, k2 ≤ xs.length ∧ i = .int .i64 k2 ∧ xs.take k2 = ys.take k2 ∧ Ext w wr) (fun i _ => xs.length - (intOf i).toNat)
    case atStart => exact ⟨0, Nat.zero_le _, rfl, by simp, Ext.refl _⟩
    case round =>
      obtain ⟨k2, hk, rfl, he, hx⟩ := hrel
      have HE := hid he
      clear he
      by_cases hlt : k2 < xs.length
      · have hlt2 : k2 < ys.length := by have := HL.out; omega
        obtain ⟨b, off, A2, cap3, rfl, hok, hi, hc0, hc1, hc2, hc3, hc4, hc5, hc6, hc7, hc8⟩ := (h.mono hx).op hlt
        obtain ⟨b2, off2, A3, cap4, rfl, hok2, hi2, hd0, hd1, hd2, hd3, hd4, hd5, hd6, hd7, hd8⟩ := (k.mono hx).op hlt2
        have hcz0 : ∀ z : ExtOf wr, z.1.cell? ⟨b, off + k2 * 9, none⟩ = _ := fun z => z.2.cell hc0
        have hdz0 : ∀ z : ExtOf wr, z.1.cell? ⟨b2, off2 + k2 * 9, none⟩ = _ := fun z => z.2.cell hd0
        have hcz1 : ∀ z : ExtOf wr, z.1.cell? ⟨b, off + k2 * 9 + 1, none⟩ = _ := fun z => z.2.cell hc1
        have hdz1 : ∀ z : ExtOf wr, z.1.cell? ⟨b2, off2 + k2 * 9 + 1, none⟩ = _ := fun z => z.2.cell hd1
        have hcz2 : ∀ z : ExtOf wr, z.1.cell? ⟨b, off + k2 * 9 + 2, none⟩ = _ := fun z => z.2.cell hc2
        have hdz2 : ∀ z : ExtOf wr, z.1.cell? ⟨b2, off2 + k2 * 9 + 2, none⟩ = _ := fun z => z.2.cell hd2
        have hcz3 : ∀ z : ExtOf wr, z.1.cell? ⟨b, off + k2 * 9 + 3, none⟩ = _ := fun z => z.2.cell hc3
        have hdz3 : ∀ z : ExtOf wr, z.1.cell? ⟨b2, off2 + k2 * 9 + 3, none⟩ = _ := fun z => z.2.cell hd3
        have hcz4 : ∀ z : ExtOf wr, z.1.cell? ⟨b, off + k2 * 9 + 4, none⟩ = _ := fun z => z.2.cell hc4
        have hdz4 : ∀ z : ExtOf wr, z.1.cell? ⟨b2, off2 + k2 * 9 + 4, none⟩ = _ := fun z => z.2.cell hd4
        have hcz5 : ∀ z : ExtOf wr, z.1.cell? ⟨b, off + k2 * 9 + 5, none⟩ = _ := fun z => z.2.cell hc5
        have hdz5 : ∀ z : ExtOf wr, z.1.cell? ⟨b2, off2 + k2 * 9 + 5, none⟩ = _ := fun z => z.2.cell hd5
        have hcz6 : ∀ z : ExtOf wr, z.1.cell? ⟨b, off + k2 * 9 + 6, none⟩ = _ := fun z => z.2.cell hc6
        have hdz6 : ∀ z : ExtOf wr, z.1.cell? ⟨b2, off2 + k2 * 9 + 6, none⟩ = _ := fun z => z.2.cell hd6
        have hcz7 : ∀ z : ExtOf wr, z.1.cell? ⟨b, off + k2 * 9 + 7, none⟩ = _ := fun z => z.2.cell hc7
        have hdz7 : ∀ z : ExtOf wr, z.1.cell? ⟨b2, off2 + k2 * 9 + 7, none⟩ = _ := fun z => z.2.cell hd7
        have hcz8 : ∀ z : ExtOf wr, z.1.cell? ⟨b, off + k2 * 9 + 8, none⟩ = _ := fun z => z.2.cell hc8
        have hdz8 : ∀ z : ExtOf wr, z.1.cell? ⟨b2, off2 + k2 * 9 + 8, none⟩ = _ := fun z => z.2.cell hd8
        by_cases h0 : xs[k2] = ys[k2]
        · have H0 := hid h0
          clear h0
          go_wp2_with fail
          refine wp_region_ext (by kernel_rfl) (by kernel_rfl) ?_
          repeat (go_big_quiet_step (((go_at_call 111; exact quiet_ext (eqOp_c _ _ xs[k2] ys[k2] _ ⟨_, rfl, hok, hi.mono (Subtype.property _)⟩ ⟨_, rfl, hok2, hi2.mono (Subtype.property _)⟩)))))
          refine wpQuiet_nil ?_
          rintro w1 ⟨⟨_, x1⟩, rfl⟩
          rw [eqB_true H0.out]
          go_wp2
          go_roundw
          case rel => exact ⟨k2 + 1, by omega, by go_num, take_snoc_eq hlt hlt2 H0.out HE.out, hx.trans x1⟩
          case measure => simp [intOf]; omega
        · have H0 := hid h0
          clear h0
          go_wp2_with fail
          refine wp_region_ext (by kernel_rfl) (by kernel_rfl) ?_
          repeat (go_big_quiet_step (((go_at_call 111; exact quiet_ext (eqOp_c _ _ xs[k2] ys[k2] _ ⟨_, rfl, hok, hi.mono (Subtype.property _)⟩ ⟨_, rfl, hok2, hi2.mono (Subtype.property _)⟩)))))
          refine wpQuiet_nil ?_
          rintro w1 ⟨⟨_, x1⟩, rfl⟩
          rw [eqB_false H0.out]
          go_wp2
          go_ret
          exact ⟨ret_bool (eqB_false (ne_of_at hlt hlt2 H0.out)).symm, hx.trans x1⟩
      · go_wp2
        go_ret
        exact ⟨ret_bool (eqB_true (eq_of_take hlt HL.out HE.out)).symm, hx⟩
  · have hl' : ((xs.length : Int) != (ys.length : Int)) = true := by simp; omega
    go_enter Tryz.func58, Tryz.ntmps58
    go_wp2
    go_ret
    exact ⟨ret_bool (eqB_false fun e => hl (by rw [e])).symm, Ext.refl _⟩
end Go.Proofs.YtfcbapaojoecgaaGreat

namespace Go.Proofs.YtfcbapaojoecgaaGreat
open Go.RowKit

/-- what RemoveVerdict answers -/
noncomputable def rmV (xs : List Verdict) (x : Verdict) : List Verdict × Bool :=
  if areVers xs = true ∧ 0 ≤ idxV xs x then (xs.eraseIdx (idxV xs x).toNat, true) else (xs, false)
def VsOut (w : World) (e : Ending) (w2 : World) (r : List Verdict × Bool) : Prop := ∃ v2 F, e = .returned (.tuple #[v2, .bool r.2]) ∧ OwnSl verdictO w2 v2 r.1 F ∧ NewF w F ∧ Ext w w2
theorem rmV_cnt (x : List Verdict) (y : Verdict) (h : x.length ≤ 1048576) : (lstMk verdictMk).cnt (rmV x y).1 ≤ 4194304 := by
  refine Nat.le_trans (cntVerdictS_le _) ?_
  have : (rmV x y).1.length ≤ x.length := by
    unfold rmV
    split
    · rw [List.length_eraseIdx]; split <;> omega
    · exact Nat.le_refl _
  omega
theorem idxF_lt {α : Type} (p : α → Bool) : ∀ (xs : List α) (k : Nat), (idxF p k xs = -1 ∧ ∀ x ∈ xs, p x = false) ∨ ∃ j, j < xs.length ∧ idxF p k xs = ((k + j : Nat) : Int) ∧ ∃ h : j < xs.length, p xs[j] = true
  | [], k => .inl ⟨rfl, fun _ h => by cases h⟩
  | x :: xs, k => by
    by_cases hp : p x = true
    · exact .inr ⟨0, by simp, by simp [idxF, hp], by simp, by simpa using hp⟩
    · have hp' : p x = false := by simpa using hp
      rcases idxF_lt p xs (k + 1) with ⟨e, h⟩ | ⟨j, hj, e, hj2, h⟩
      · refine .inl ⟨by simp [idxF, hp', e], fun y hy => ?_⟩
        rcases List.mem_cons.1 hy with rfl | hy
        · exact hp'
        · exact h y hy
      · exact .inr ⟨j + 1, by simpa using hj, by simp only [idxF, hp', Bool.false_eq_true, if_false, e]; omega, by simpa using hj, by simpa using h⟩
theorem idxV_cases (xs : List Verdict) (x : Verdict) : (idxV xs x = -1 ∧ x ∉ xs) ∨ ∃ j, ∃ hj : j < xs.length, idxV xs x = (j : Int) ∧ xs[j] = x := by
  unfold idxV
  rcases idxF_lt (fun y => eqB y x) xs 0 with ⟨e, h⟩ | ⟨j, hj, e, hj2, h⟩
  · refine .inl ⟨e, fun hm => ?_⟩
    have := h x hm
    rw [eqB_self] at this; cases this
  · refine .inr ⟨j, hj, by rw [e]; simp, ?_⟩
    exact (eqB_iff _ _).1 h
theorem erase_take (xs : List Verdict) (j : Nat) : xs.take j ++ xs.drop (j + 1) = xs.eraseIdx j := (List.eraseIdx_eq_take_drop_succ xs j).symm
/-- 's[k:]' -/
theorem Sl.dropv {w : World} {b off n cap : Nat} {xs : List Verdict} (h : Sl verdictR w (.slice (some ⟨b, off, none⟩) n cap) xs) (k : Nat) (hk : k ≤ xs.length) (hc : ¬ cap = k) :
    Sl verdictR w (.slice (some ⟨b, off + k * 4, none⟩) (n - k) (cap - k)) (xs.drop k) := by
  obtain ⟨A, cap', he, hm, hi⟩ := h
  injection he with e1 e2 e3
  subst e1; subst e2; subst e3
  refine ⟨_, _, by rw [List.length_drop], ⟨by rw [List.length_drop]; omega, by omega⟩, fun i hlt => ?_⟩
  rw [List.length_drop] at hlt
  obtain ⟨b2, off2, cs, e, hr, hc2⟩ := hi (k + i) (by omega)
  injection e with e
  injection e with e4 e5 _
  subst e4; subst e5
  refine ⟨b, off + k * 4, cs, rfl, by rw [List.getElem_drop]; exact hr, fun j hj => ?_⟩
  have h4 : verdictR.n = 4 := rfl
  rw [← hc2 j hj, h4, show off + k * 4 + i * 4 + j = off + (k + i) * 4 + j by rw [Nat.add_mul]; omega]

theorem rmV_no {xs : List Verdict} {x : Verdict} (h : ¬ (areVers xs = true ∧ 0 ≤ idxV xs x)) : rmV xs x = (xs, false) := by unfold rmV; rw [if_neg h]
theorem rmV_yes {xs : List Verdict} {x : Verdict} {j : Nat} (h : areVers xs = true) (h2 : idxV xs x = (j : Int)) : rmV xs x = (xs.eraseIdx j, true) := by unfold rmV; rw [if_pos ⟨h, by rw [h2]; omega⟩, h2]; rfl
/-- 's[k:]', whatever the capacity -/
theorem Sl.tailv {w : World} {b off n cap : Nat} {xs : List Verdict} (h : Sl verdictR w (.slice (some ⟨b, off, none⟩) n cap) xs) (k : Nat) (hk : k ≤ xs.length) :
    ∃ A2 : Option Addr, (if cap = k then (some ⟨b, off, none⟩ : Option Addr) else some ⟨b, off + k * 4, none⟩) = A2 ∧ Hid (∀ W, Ext w W → Sl verdictR W (.slice A2 (xs.length - k) (cap - k)) (xs.drop k)) := by
  have hn := h.cap_
  by_cases hc : cap = k
  · refine ⟨_, rfl, fun W hW => ?_⟩
    rw [if_pos hc, show xs.drop k = [] from List.drop_of_length_le (by omega), show xs.length - k = 0 by omega]
    exact ⟨_, _, rfl, ⟨Nat.zero_le _, by unfold maxLen; omega⟩, fun i hi => absurd hi (Nat.not_lt_zero _)⟩
  · refine ⟨_, rfl, fun W hW => ?_⟩
    rw [if_neg hc, ← hn.1]
    exact (h.mono hW).dropv k hk hc

end Go.Proofs.YtfcbapaojoecgaaGreat

namespace Go.Proofs.YtfcbapaojoecgaaGreat
open Go.RowKit

set_option maxHeartbeats 1000000 in
set_option maxRecDepth 20000 in
theorem impl_cloneRecord (v : Value) (r : Record) (w : World) (h : RecAt w v r) (hb : r.fields.length ≤ 1048576) :
    Calls Tryz.prog 100 #[v] w fun e w2 => ∃ v2 F, e = .returned v2 ∧ RecOwn w2 v2 r F ∧ NewF w F ∧ Ext w w2 := by
  obtain ⟨f, rfl, hok, hs⟩ := h
  obtain ⟨A, cap, rfl, hm⟩ := hs.form
  have bP := Blk.new w 72 #[.int .i64 r.source, .int .i64 r.key, .int .i64 r.version, .slice A r.fields.length cap]
  have bR := Blk.new (w.alloc (.cells #[.int .i64 r.source, .int .i64 r.key, .int .i64 r.version, .slice A r.fields.length cap] 72)) 72 #[.int .i64 0, .int .i64 0, .int .i64 0, .slice none 0 0]
  rw [World.size_alloc] at bR
  have bP2 := bP.ext ((Ext.refl _).alloc (.cells #[.int .i64 0, .int .i64 0, .int .i64 0, .slice none 0 0] 72))
  have xw : Ext w ((w.alloc (.cells #[.int .i64 r.source, .int .i64 r.key, .int .i64 r.version, .slice A r.fields.length cap] 72)).alloc (.cells #[.int .i64 0, .int .i64 0, .int .i64 0, .slice none 0 0] 72)) := ((Ext.refl w).alloc _).alloc _
  obtain ⟨⟨p0, p1, p2, p3⟩, _⟩ := bP2.c4
  go_enter Tryz.func100, Tryz.ntmps100
  go_wp2_with fail
  refine (slices_Clone_sB _ r.fields _ (hs.mono xw) hb).mono ?_
  rintro e w1 ⟨v1, rfl, hB, x1⟩
  obtain ⟨F1, o1, n1, m1⟩ := hB.done
  obtain ⟨A1, c1, e1, _⟩ := o1.form
  subst e1
  have bP3 := bP2.ext x1
  have bR3 := bR.ext x1
  have hF : ∀ b ∈ F1, w.heap.size + 1 < b := fun b hb2 => by have := m1 b hb2; simp only [World.size_alloc] at this; omega
  have bP4 := bP3.set3 (.slice A1 r.fields.length c1)
  have bR4 := bR3.other (g2 := w.heap.size) (i := 3) (u := .slice A1 r.fields.length c1) (by omega)
  have o4 := o1.setCell (p := ⟨w.heap.size, 3, none⟩) (fun h9 => by have := hF _ h9; simp only at this; omega) (.slice A1 r.fields.length c1)
  obtain ⟨⟨q0, q1, q2, q3⟩, qf⟩ := bP3.c4
  have qf3 := qf 3
  obtain ⟨⟨s0, s1, s2, s3⟩, sf⟩ := bP4.c4
  obtain ⟨⟨t0, t1, t2, t3⟩, tf⟩ := bR4.c4
  have b9 := (Blk.store4 bR4 (.int .i64 r.source) (.int .i64 r.key) (.int .i64 r.version) (.slice A1 r.fields.length c1)).2.2.2.2
  obtain ⟨⟨r0, r1, r2, r3⟩, _⟩ := b9.c4
  have hR : (w.heap.size + 1) ∉ F1 := fun h9 => by have := hF _ h9; omega
  have tf0 := tf 0
  have tf1 := tf 1
  have tf2 := tf 2
  have tf3 := tf 3
  have HI := hid hok
  have HN := hid (show NewF w F1 from ⟨n1, fun b hb2 => by have := hF b hb2; omega⟩)
  have HX := hid (show Ext w (w1.setCell ⟨w.heap.size, 3, none⟩ (.slice A1 r.fields.length c1)) from (xw.trans x1).setCell (Nat.le_refl _) _)
  have HO := hid o4
  have HH := hid hR
  clear bP bR bP2 bP3 bR3 bP4 bR4 b9 hF m1 n1 hok hB qf sf tf p0 p1 p2 p3 o1 o4 hR
  go_wp2
  refine bodyPost_ret (v := .agg #[.int .i64 r.source, .int .i64 r.key, .int .i64 r.version, .slice A1 r.fields.length c1]) (by simp [results, Tryz.results100, go_sem, r0, r1, r2, r3]) rfl ?_
  exact ⟨_, F1, rfl, ⟨_, rfl, HI.out, (((HO.out.setCell (p := ⟨w.heap.size + 1, 0, none⟩) HH.out _).setCell (p := ⟨w.heap.size + 1, 1, none⟩) HH.out _).setCell (p := ⟨w.heap.size + 1, 2, none⟩) HH.out _).setCell (p := ⟨w.heap.size + 1, 3, none⟩) HH.out _⟩, HN.out, (((HX.out.setCell (by simp) _).setCell (by simp) _).setCell (by simp) _).setCell (by simp) _⟩

theorem Bld.of_blk {α : Type} {R : RepO α} {w : World} {g base : Nat} {cs : List Value} {e : TypeId} {xs : List α} {F : List Nat} (hg : Blk w g e cs) (hb : base ≤ g) (hm : xs.length ≤ maxLen) (hc : OwnCells R w cs xs F) (hF : FromF g F) :
    Bld R w base e (.slice (some ⟨g, 0, none⟩) xs.length xs.length) xs F := by
  have hl := hc.length
  refine Bld.of_parts rfl hb hg.out (Nat.le_refl _) hm (by rw [List.size_toArray, hl]) ?_ (fun h => by have := hF.2 g h; omega) hF.1 fun b hb2 => by have := hF.2 b hb2; omega
  rw [List.toList_toArray, ← hl, List.take_length]; exact hc

set_option maxHeartbeats 1000000 in
set_option maxRecDepth 20000 in
theorem impl_cloneRecords (v : Value) (xs : List Record) (w : World) (h : Sl recordR w v xs) (hb : xs.length + sumBy msRec xs ≤ 1048576) :
    Calls Tryz.prog 95 #[v] w fun e w2 => ∃ v2 F, e = .returned v2 ∧ Bld recordO w2 w.heap.size 72 v2 xs F ∧ Ext w w2 := by
  obtain ⟨A, cap, rfl, hm⟩ := h.form
  obtain ⟨i0, hi0, hz0, hz1, hz2⟩ := info_parts infoRecord
  have hmk := run_mk (P := Tryz.prog) 31 72 i0 _ recordZ 48 Tryz.underlying31 hi0 hz0 rfl hz1 hz2 xs.length (by omega) hm
  go_enter Tryz.func95, Tryz.ntmps95
  go_wp2
  go_loopw [11] (fun i wr => ∃ (k : Nat) (done : List Value) (F : List Nat), k ≤ xs.length ∧ i = .int .i64 k ∧ Blk wr w.heap.size 72 (done ++ (List.replicate (xs.length - k) recordZ).flatten) ∧
    OwnCells recordO wr done (xs.take k) F ∧ FromF w.heap.size F ∧ Ext w wr) (fun i _ => xs.length - (intOf i).toNat)
  case atStart => exact ⟨0, [], [], Nat.zero_le _, rfl, by simpa using Blk.new w 72 (List.replicate xs.length recordZ).flatten.toArray, .nil, .nil _, (Ext.refl _).alloc _⟩
  case round =>
    obtain ⟨k, done, F, hk, rfl, hblk, hown, hF, hx⟩ := hrel
    by_cases hlt : k < xs.length
    · obtain ⟨b, off, A2, cap2, rfl, hok, hsl, hc0, hc1, hc2, hc3⟩ := (h.mono hx).record hlt
      have hz : (List.replicate (xs.length - k) recordZ).flatten = .int .i64 0 :: .int .i64 0 :: .int .i64 0 :: .slice none 0 0 :: (List.replicate (xs.length - (k + 1)) recordZ).flatten := by
        rw [show xs.length - k = (xs.length - (k + 1)) + 1 by omega, List.replicate_succ]; rfl
      rw [hz] at hblk
      clear hz
      have hl : done.length = k * 4 := by rw [hown.length]; simp [recordO, recordR]; omega
      have hgl := block_lt hblk.out
      have HL := hid hl
      have hbk : xs[k].fields.length ≤ 1048576 := by have := sumBy_at msRec xs k hlt; simp only [msRec] at this; omega
      have xb : Ext wr (wr.alloc (.cells #[.int .i64 xs[k].source, .int .i64 xs[k].key, .int .i64 xs[k].version, .slice A2 xs[k].fields.length cap2] 72)) := (Ext.refl wr).alloc _
      clear hl
      go_wp2_with fail
      refine (impl_cloneRecord _ xs[k] _ ⟨_, rfl, hok, hsl.mono xb⟩ hbk).mono ?_
      rintro e w2 ⟨v2, F2, rfl, ⟨m2, rfl, _, ho⟩, hn, x2⟩
      have hblk2 := hblk.ext (xb.trans x2)
      obtain ⟨A3, cap3, e3, _⟩ := ho.form
      subst e3
      obtain ⟨p0, q0⟩ := hblk2.at_ HL.out
      have b0 := hblk2.store HL.out (Value.int .i64 xs[k].source)
      have l0 : (done ++ [(Value.int .i64 xs[k].source)]).length = k * 4 + 1 := by rw [List.length_append, HL.out]; rfl
      obtain ⟨p1, q1⟩ := b0.at_ l0
      have b1 := b0.store l0 (Value.int .i64 xs[k].key)
      have l1 : (done ++ [(Value.int .i64 xs[k].source)] ++ [(Value.int .i64 xs[k].key)]).length = k * 4 + 2 := by rw [List.length_append, l0]; rfl
      obtain ⟨p2, q2⟩ := b1.at_ l1
      have b2 := b1.store l1 (Value.int .i64 xs[k].version)
      have l2 : (done ++ [(Value.int .i64 xs[k].source)] ++ [(Value.int .i64 xs[k].key)] ++ [(Value.int .i64 xs[k].version)]).length = k * 4 + 3 := by rw [List.length_append, l1]; rfl
      obtain ⟨p3, q3⟩ := b2.at_ l2
      have b3 := b2.store l2 (Value.slice A3 xs[k].fields.length cap3)
      have hk2 : ∀ b, b ≠ w.heap.size → ((((w2.setCell ⟨w.heap.size, k * 4, none⟩ (Value.int .i64 xs[k].source)).setCell ⟨w.heap.size, k * 4 + 1, none⟩ (Value.int .i64 xs[k].key)).setCell ⟨w.heap.size, k * 4 + 2, none⟩ (Value.int .i64 xs[k].version)).setCell ⟨w.heap.size, k * 4 + 3, none⟩ (Value.slice A3 xs[k].fields.length cap3)).heap[b]? = w2.heap[b]? :=
        fun b hb => ((keep_setCell hb).trans ((keep_setCell hb).trans ((keep_setCell hb).trans (keep_setCell hb))))
      obtain ⟨ho3, hF3⟩ := hown.step (R := recordO) hF (xb.trans x2) ⟨_, rfl, hok, ho⟩ (hn.ext xb) hgl hk2
      have HK := hid (And.intro ho3 hF3)
      have HST := hid b3
      have HX4 := hid ((((hx.trans (xb.trans x2)).setCell (p := ⟨w.heap.size, k * 4, none⟩) (Nat.le_refl _) (Value.int .i64 xs[k].source)).setCell (p := ⟨w.heap.size, k * 4 + 1, none⟩) (Nat.le_refl _) (Value.int .i64 xs[k].key)).setCell (p := ⟨w.heap.size, k * 4 + 2, none⟩) (Nat.le_refl _) (Value.int .i64 xs[k].version) |>.setCell (p := ⟨w.heap.size, k * 4 + 3, none⟩) (Nat.le_refl _) (Value.slice A3 xs[k].fields.length cap3))
      clear hblk hblk2 HL b0 b1 b2 b3 l0 l1 l2 hk2 ho3 hF3 hok
      go_wp2
      go_roundw
      case rel => exact ⟨k + 1, done ++ [(Value.int .i64 xs[k].source), (Value.int .i64 xs[k].key), (Value.int .i64 xs[k].version), (Value.slice A3 xs[k].fields.length cap3)], F ++ F2, by omega, by go_num, by simpa using HST.out, by rw [List.take_succ_eq_append_getElem hlt]; exact HK.out.1, HK.out.2, HX4.out⟩
      case measure => simp [intOf]; omega
    · go_wp2
      go_ret
      rw [show xs.length - k = 0 by omega, List.replicate_zero, List.flatten_nil, List.append_nil] at hblk
      rw [List.take_of_length_le (by omega)] at hown
      exact ⟨_, _, rfl, Bld.of_blk hblk (Nat.le_refl _) (by unfold maxLen; omega) hown hF, hx⟩
end Go.Proofs.YtfcbapaojoecgaaGreat

namespace Go.Proofs.YtfcbapaojoecgaaGreat
open Go.RowKit

structure Batch where
  ops : List Op
def BatAt (w : World) (v : Value) (b : Batch) : Prop := ∃ o, v = .agg #[o] ∧ True ∧ Sl opR w o b.ops
def BatOwn (w : World) (v : Value) (b : Batch) (F : List Nat) : Prop := ∃ o, v = .agg #[o] ∧ True ∧ OwnSl opO w o b.ops F
theorem BatAt.mono {w w2 : World} {v : Value} {b : Batch} (e : Ext w w2) (h : BatAt w v b) : BatAt w2 v b := let ⟨f, a, t, c⟩ := h; ⟨f, a, t, c.mono e⟩
theorem BatOwn.at_ {w : World} {v : Value} {b : Batch} {F : List Nat} (h : BatOwn w v b F) : BatAt w v b := let ⟨f, a, t, c⟩ := h; ⟨f, a, t, c.sl⟩
theorem BatOwn.lt {w : World} {v : Value} {b : Batch} {F : List Nat} (h : BatOwn w v b F) : ∀ k ∈ F, k < w.heap.size := let ⟨_, _, _, c⟩ := h; c.lt
theorem BatOwn.keep {w w2 : World} {v : Value} {b : Batch} {F : List Nat} (h : BatOwn w v b F) (k : ∀ i ∈ F, w2.heap[i]? = w.heap[i]?) : BatOwn w2 v b F := let ⟨f, a, t, c⟩ := h; ⟨f, a, t, c.keep k⟩
theorem BatOwn.ext {w w2 : World} {v : Value} {b : Batch} {F : List Nat} (h : BatOwn w v b F) (e : Ext w w2) : BatOwn w2 v b F := h.keep fun i hi => e.block (h.lt i hi)
def msBat (b : Batch) : Nat := b.ops.length + sumBy msOp b.ops
theorem Batch.eta (x y : Batch) : x = y ↔ x.ops = y.ops := by cases x; cases y; simp

set_option maxHeartbeats 400000 in
theorem szBatch_c (v : Value) (b : Batch) (left : Int) (w : World) (h : BatAt w v b) (h0 : 0 ≤ left) (h1 : left ≤ 1048576) :
    Calls Tryz.prog 7 #[v, .int .i64 left] w fun e w2 => e = .returned (.int .i64 (szv ((msBat b : Nat) : Int) left)) ∧ Ext w w2 := by
  obtain ⟨f, rfl, _, hs⟩ := h
  go_enter Tryz.func7, Tryz.ntmps7
  go_wp2_with fail
  refine (szOpS_c _ b.ops _ _ (hs.mono (by repeat (first | with_reducible exact Ext.refl _ | with_reducible assumption | with_reducible refine Ext.drew ?_ | with_reducible refine Ext.alloc ?_ _ | (refine Ext.setCell ?_ (by simp) _) | with_reducible refine Ext.trans ?_ (by with_reducible assumption)))) h0 h1).mono ?_
  rintro e w2 ⟨rfl, x2⟩
  rw [show ((b.ops.length + sumBy msOp b.ops : Nat) : Int) = ((msBat b : Nat) : Int) from rfl]
  by_cases hs9 : left < ((msBat b : Nat) : Int)
  · have HS := hid hs9
    rw [szv_neg hs9]
    clear hs9
    go_wp2
    go_ret
    exact ⟨ret_int (szv_neg HS.out).symm, (by repeat (first | with_reducible exact Ext.refl _ | with_reducible assumption | with_reducible refine Ext.drew ?_ | with_reducible refine Ext.alloc ?_ _ | with_reducible refine Ext.trans ?_ (by with_reducible assumption)))⟩
  · have hs0 := szv_nn hs9
    have hs1 := szv_le (n := ((msBat b : Nat) : Int)) (left := left) (by omega) (by omega)
    obtain ⟨L, hL⟩ : ∃ L, L = szv ((msBat b : Nat) : Int) left := ⟨_, rfl⟩
    rw [← hL] at hs0 hs1 ⊢
    have HL := hid hL
    clear hL
    have HS := hid hs9
    clear hs9
    go_wp2
    go_ret
    exact ⟨ret_int HL.out, (by repeat (first | with_reducible exact Ext.refl _ | with_reducible assumption | with_reducible refine Ext.drew ?_ | with_reducible refine Ext.alloc ?_ _ | with_reducible refine Ext.trans ?_ (by with_reducible assumption)))⟩

set_option maxHeartbeats 400000 in
set_option maxRecDepth 20000 in
theorem toBatch_c (v : Value) (b : Batch) (w : World) (h : BatAt w v b) (hb : msBat b ≤ 1048576) :
    Calls Tryz.prog 10 #[v] w fun e w2 => ∃ v2 F, e = .returned v2 ∧ BatOwn w2 v2 b F ∧ NewF w F ∧ Ext w w2 := by
  obtain ⟨f, rfl, _, hs⟩ := h
  go_enter Tryz.func10, Tryz.ntmps10
  go_wp2_with fail
  refine (toOpS_c _ b.ops _ (hs.mono (by repeat (first | with_reducible exact Ext.refl _ | with_reducible assumption | with_reducible refine Ext.drew ?_ | with_reducible refine Ext.alloc ?_ _ | (refine Ext.setCell ?_ (by simp) _) | with_reducible refine Ext.trans ?_ (by with_reducible assumption)))) hb).mono ?_
  rintro e w2 ⟨v2, F, rfl, ho, hn, x2⟩
  obtain ⟨A2, cap2, e2, _⟩ := ho.form
  subst e2
  obtain ⟨c2, f2⟩ := x2.box2
  obtain ⟨c1, f1⟩ := (((Ext.refl _).alloc _).trans x2).box1
  have hlt : ∀ b ∈ F, w.heap.size + 1 + 1 < b := fun b hb => by have := hn.2 b hb; simp at this; omega
  go_wp2
  refine bodyPost_ret (v := .agg #[.slice A2 b.ops.length cap2]) (by simp [results, Tryz.results10, go_sem, c1, f1]) rfl ?_
  have e9 := hn.ext (w := w) (by repeat (first | with_reducible exact Ext.refl _ | with_reducible assumption | with_reducible refine Ext.drew ?_ | with_reducible refine Ext.alloc ?_ _ | with_reducible refine Ext.trans ?_ (by with_reducible assumption)))
  have x9 : Ext w w2 := (by repeat (first | with_reducible exact Ext.refl _ | with_reducible assumption | with_reducible refine Ext.drew ?_ | with_reducible refine Ext.alloc ?_ _ | with_reducible refine Ext.trans ?_ (by with_reducible assumption)))
  clear hn x2 c1 f1 c2 f2
  refine ⟨_, F, rfl, ⟨_, rfl, trivial, ?_⟩, e9, ?_⟩
  · repeat (first | with_reducible exact ho | (refine OwnSl.setCell ?_ (fun h9 => by have := hlt _ h9; simp only at this; omega) _))
  · repeat (refine Ext.setCell ?_ (by simp; try omega) _)
    exact x9

set_option maxHeartbeats 400000 in
theorem eqBatch_c (v u : Value) (x y : Batch) (w : World) (h : BatAt w v x) (k : BatAt w u y) :
    Calls Tryz.prog 13 #[v, u] w fun e w2 => e = .returned (.bool (eqB x y)) ∧ Ext w w2 := by
  obtain ⟨f, rfl, _, hs⟩ := h
  obtain ⟨g, rfl, _, hs2⟩ := k
  go_enter Tryz.func13, Tryz.ntmps13
  go_wp2_with fail
  refine (eqOpS_c _ _ x.ops y.ops _ (hs.mono (by repeat (first | with_reducible exact Ext.refl _ | with_reducible assumption | with_reducible refine Ext.drew ?_ | with_reducible refine Ext.alloc ?_ _ | (refine Ext.setCell ?_ (by simp) _) | with_reducible refine Ext.trans ?_ (by with_reducible assumption)))) (hs2.mono (by repeat (first | with_reducible exact Ext.refl _ | with_reducible assumption | with_reducible refine Ext.drew ?_ | with_reducible refine Ext.alloc ?_ _ | (refine Ext.setCell ?_ (by simp) _) | with_reducible refine Ext.trans ?_ (by with_reducible assumption))))).mono ?_
  rintro e w2 ⟨rfl, x2⟩
  by_cases h4 : x.ops = y.ops
  · rw [eqB_true h4]
    have H4 := hid h4
    clear h4
    go_wp2
    go_ret
    exact ⟨ret_bool (eqB_true ((Batch.eta x y).2 H4.out)).symm, (by repeat (first | with_reducible exact Ext.refl _ | with_reducible assumption | with_reducible refine Ext.drew ?_ | with_reducible refine Ext.alloc ?_ _ | (refine Ext.setCell ?_ (by simp) _) | with_reducible refine Ext.trans ?_ (by with_reducible assumption)))⟩
  · rw [eqB_false h4]
    have H4 := hid h4
    clear h4
    go_wp2
    go_ret
    exact ⟨ret_bool (eqB_false fun e => H4.out (by rw [e])).symm, (by repeat (first | with_reducible exact Ext.refl _ | with_reducible assumption | with_reducible refine Ext.drew ?_ | with_reducible refine Ext.alloc ?_ _ | (refine Ext.setCell ?_ (by simp) _) | with_reducible refine Ext.trans ?_ (by with_reducible assumption)))⟩

theorem reads_op9 {cs : List Value} (h : cs.length = 9) {a : Value} {r d : List Value} (ha : (cs.drop 0).take 1 = [a]) (hr : (cs.drop 1).take 4 = r) (hd : (cs.drop 5).take 4 = d) : cs = a :: (r ++ d) := by
  match cs, h with
  | [x0, x1, x2, x3, x4, x5, x6, x7, x8], _ => subst hr; subst hd; simp_all
theorem rLawOp : Reads Tryz.prog 112 opR := by
  refine ⟨by kernel_rfl, fun h => ?_⟩
  have ht := Tryz.underlying112
  obtain ⟨a, e0, w0⟩ := Reads.field ht h 0 _ rfl rInt
  obtain ⟨r, f, e1, k1, s1⟩ := Reads.field ht h 1 _ rfl rLawRecord
  obtain ⟨d, e2, k2⟩ := Reads.field ht h 2 _ rfl rLawVerdict
  exact ⟨⟨a, r, d⟩, f, reads_op9 ((struct_len ht h).trans (by kernel_rfl)) e0 e1 e2, ⟨w0, k1, k2⟩, s1⟩
theorem rLawOps : Reads Tryz.prog 26 (slR opR) := reads_slice Tryz.underlying26 (by kernel_rfl) (by decide) rLawOp
def batchR : Rep Batch := ⟨1, fun w cs b => ∃ o, cs = [o] ∧ True ∧ Sl opR w o b.ops, fun ⟨_, h, _⟩ => by rw [h]; rfl, fun x ⟨o, a, t, c⟩ => ⟨o, a, t, c.mono x⟩⟩
theorem rLawBatch : Reads Tryz.prog 28 batchR := by
  refine ⟨by kernel_rfl, fun h => ?_⟩
  have ht := Tryz.underlying28
  obtain ⟨l, v1, e1, w1⟩ := Reads.field ht h 0 _ rfl rLawOps
  have hl := (struct_len ht h).trans (show Tryz.prog.cellsOf 28 = 1 by kernel_rfl)
  rename_i cs _
  refine ⟨⟨l⟩, v1, ?_, trivial, w1⟩
  match cs, hl with
  | [x], _ =>
    have e2 : ([x].drop 0).take 1 = [v1] := e1
    simpa using e2
end Go.Proofs.YtfcbapaojoecgaaGreat

namespace Go.Proofs.YtfcbapaojoecgaaGreat
open Go.RowKit

theorem Bld.keepO {α : Type} {R : RepO α} {w w2 : World} {base : Nat} {e : TypeId} {v : Value} {xs : List α} {F : List Nat} (h : Bld R w base e v xs F) (hF : ∀ b ∈ F, w2.heap[b]? = w.heap[b]?) (hv : ∀ g, v.ownBlock = some g → w2.heap[g]? = w.heap[g]?) : Bld R w2 base e v xs F := by
  obtain ⟨cs, h1, h2, h3, h4, h5⟩ := h
  refine ⟨cs, ⟨h1.1, ?_⟩, h2.keep hF, h3, h4, h5⟩
  rcases h1.2 with h | ⟨g', cap, cur, rfl, hb, hh, hr⟩
  · exact .inl h
  · exact .inr ⟨g', cap, cur, rfl, hb, (hv g' rfl).trans hh, hr⟩
theorem Bld.kp {α : Type} {R : RepO α} {w w2 : World} {base g : Nat} {e : TypeId} {v : Value} {xs : List α} {F : List Nat} (h : Bld R w base e v xs F) (k : Kp g w w2) (hF : g ∉ F) (hv : v.ownBlock ≠ some g) : Bld R w2 base e v xs F :=
  h.keepO (fun b hb => k.2 b (h.lt.1 b hb) fun e => hF (e ▸ hb)) fun g2 h2 => k.2 g2 (h.lt.2 g2 h2).1 fun e => hv (by rw [h2, e])
theorem Kp.set (g k : Nat) (u : Value) (w : World) : Kp g w (w.setCell ⟨g, k, none⟩ u) := ⟨by simp, fun b _ hb => keep_setCell hb⟩

/-- the two rows of a store: owned, apart -/
structure Rows2 (w : World) (base : Nat) (rv vv : Value) (rs : List Record) (vs : List Verdict) (F : List Nat) : Prop where
  r : Bld recordO w base 72 rv rs F
  v : Bld verdictO w base 74 vv vs []
  ap : ∀ g, vv.ownBlock = some g → g ∉ F ∧ rv.ownBlock ≠ some g
theorem Rows2.ext {w w2 : World} {base : Nat} {rv vv : Value} {rs : List Record} {vs : List Verdict} {F : List Nat} (h : Rows2 w base rv vv rs vs F) (x : Ext w w2) : Rows2 w2 base rv vv rs vs F := ⟨h.r.ext x, h.v.ext x, h.ap⟩
theorem Rows2.low {w : World} {base base2 : Nat} {rv vv : Value} {rs : List Record} {vs : List Verdict} {F : List Nat} (h : Rows2 w base rv vv rs vs F) (hb : base2 ≤ base) : Rows2 w base2 rv vv rs vs F := ⟨h.r.lowv hb, h.v.lowv hb, h.ap⟩
/-- a block below the base is none of theirs -/
theorem Bld.below {α : Type} {R : RepO α} {w : World} {base g : Nat} {e : TypeId} {v : Value} {xs : List α} {F : List Nat} (h : Bld R w base e v xs F) (hg : g < base) : g ∉ F ∧ v.ownBlock ≠ some g := by
  refine ⟨fun hm => ?_, fun e => ?_⟩
  · obtain ⟨cs, _, _, _, _, h5⟩ := h
    have := h5 g hm; omega
  · have := (h.lt.2 g e).2; omega
theorem Rows2.kp {w w2 : World} {base g : Nat} {rv vv : Value} {rs : List Record} {vs : List Verdict} {F : List Nat} (h : Rows2 w base rv vv rs vs F) (k : Kp g w w2) (hF : g ∉ F) (hr : rv.ownBlock ≠ some g) (hv : vv.ownBlock ≠ some g) : Rows2 w2 base rv vv rs vs F :=
  ⟨h.r.kp k hF hr, h.v.kp k (fun h => by cases h) hv, h.ap⟩
/-- its data are owned -/
theorem Rows2.done {w : World} {base : Nat} {rv vv : Value} {rs : List Record} {vs : List Verdict} {F : List Nat} {n : Int} (h : Rows2 w base rv vv rs vs F) (hI : I64 n) :
    ∃ G, StoOwn w (.agg #[.int .i64 n, rv, vv]) ⟨n, rs, vs⟩ G ∧ G.Nodup ∧ (∀ b ∈ G, base ≤ b) ∧ ∀ b ∈ G, b ∈ F ∨ rv.ownBlock = some b ∨ vv.ownBlock = some b := by
  obtain ⟨F1, o1, n1, m1, s1⟩ : ∃ F1, OwnSl recordO w rv rs F1 ∧ F1.Nodup ∧ (∀ b ∈ F1, base ≤ b) ∧ ∀ b ∈ F1, b ∈ F ∨ rv.ownBlock = some b := by
    obtain ⟨cs, h1, h2, h3, h4, h5⟩ := h.r
    rcases h1.2 with ⟨rfl, hn⟩ | ⟨g, cap, cur, rfl, hb, hh, hnc, hcm, hcs, htake⟩
    · have : rs = [] := List.eq_nil_of_length_eq_zero hn
      exact ⟨[], .inl ⟨this, rfl, none, 0, rfl, Nat.zero_le _⟩, List.nodup_nil, (fun _ h => by cases h), (fun _ h => by cases h)⟩
    · refine ⟨g :: F, .inr ⟨g, 0, cap, cur, _, F, rfl, ⟨hnc, hcm⟩, hh, rfl, ?_, by rw [List.drop_zero, htake]; exact h2⟩, List.nodup_cons.2 ⟨h3 g rfl, h4⟩, fun b hb2 => ?_, fun b hb2 => ?_⟩
      · rw [hcs, Nat.zero_add]; exact Nat.mul_le_mul_right _ hnc
      · rcases List.mem_cons.1 hb2 with rfl | hb2
        · exact hb
        · exact h5 b hb2
      · rcases List.mem_cons.1 hb2 with rfl | hb2
        · exact .inr rfl
        · exact .inl hb2
  obtain ⟨F2, o2, n2, m2, s2⟩ : ∃ F2, OwnSl verdictO w vv vs F2 ∧ F2.Nodup ∧ (∀ b ∈ F2, base ≤ b) ∧ ∀ b ∈ F2, vv.ownBlock = some b := by
    obtain ⟨cs, h1, h2, h3, h4, h5⟩ := h.v
    rcases h1.2 with ⟨rfl, hn⟩ | ⟨g, cap, cur, rfl, hb, hh, hnc, hcm, hcs, htake⟩
    · have : vs = [] := List.eq_nil_of_length_eq_zero hn
      exact ⟨[], .inl ⟨this, rfl, none, 0, rfl, Nat.zero_le _⟩, List.nodup_nil, (fun _ h => by cases h), (fun _ h => by cases h)⟩
    · refine ⟨[g], .inr ⟨g, 0, cap, cur, _, [], rfl, ⟨hnc, hcm⟩, hh, rfl, ?_, by rw [List.drop_zero, htake]; exact h2⟩, by simp, fun b hb2 => ?_, fun b hb2 => ?_⟩
      · rw [hcs, Nat.zero_add]; exact Nat.mul_le_mul_right _ hnc
      · rw [List.mem_singleton] at hb2; rw [hb2]; exact hb
      · rw [List.mem_singleton] at hb2; rw [hb2]; rfl
  refine ⟨F1 ++ F2, ⟨rv, vv, F1, F2, rfl, hI, o1, o2, rfl⟩, List.nodup_append.2 ⟨n1, n2, fun a ha b hb e => ?_⟩, fun b hb => ?_, fun b hb => ?_⟩
  · subst e
    obtain ⟨k1, k2⟩ := h.ap a (s2 a hb)
    rcases s1 a ha with h | h
    · exact k1 h
    · exact k2 h
  · rcases List.mem_append.1 hb with hb | hb
    · exact m1 b hb
    · exact m2 b hb
  · rcases List.mem_append.1 hb with hb | hb
    · rcases s1 b hb with h | h
      · exact .inl h
      · exact .inr (.inl h)
    · exact .inr (.inr (s2 b hb))
/-- a call's answer that is a store, in new memory -/
def StoNew (w : World) (s : Store) (e : Ending) (w2 : World) : Prop := ∃ rv vv F, e = .returned (.agg #[.int .i64 s.version, rv, vv]) ∧ Rows2 w2 w.heap.size rv vv s.records s.verdicts F ∧ I64 s.version ∧ Ext w w2
/-- rows made one after the other are apart -/
theorem Rows2.mk2 {w1 w2 : World} {base : Nat} {rv vv : Value} {rs : List Record} {vs : List Verdict} {F : List Nat} (hr : Bld recordO w1 base 72 rv rs F) (x : Ext w1 w2) (hv : Bld verdictO w2 w1.heap.size 74 vv vs []) (hb : base ≤ w1.heap.size) : Rows2 w2 base rv vv rs vs F := by
  refine ⟨hr.ext x, hv.lowv hb, fun g hg => ?_⟩
  have h1 := (hv.lt.2 g hg).2
  refine ⟨fun hm => ?_, fun e => ?_⟩
  · have := hr.lt.1 g hm; omega
  · have := (hr.lt.2 g e).1; omega
theorem Rows2.mk3 {w1 w2 : World} {base : Nat} {rv vv : Value} {rs : List Record} {vs : List Verdict} {F : List Nat} (hv : Bld verdictO w1 base 74 vv vs []) (x : Ext w1 w2) (hr : Bld recordO w2 w1.heap.size 72 rv rs F) (hb : base ≤ w1.heap.size) : Rows2 w2 base rv vv rs vs F := by
  refine ⟨hr.lowv hb, hv.ext x, fun g hg => ?_⟩
  have h1 := (hv.lt.2 g hg).1
  refine ⟨fun hm => ?_, fun e => ?_⟩
  · obtain ⟨cs, _, _, _, _, h5⟩ := hr
    have := h5 g hm; omega
  · have := (hr.lt.2 g e).2; omega
end Go.Proofs.YtfcbapaojoecgaaGreat

namespace Go.Proofs.YtfcbapaojoecgaaGreat
open Go.RowKit

theorem OwnSl.op_open {w : World} {A : Option Addr} {n cap : Nat} {ys : List Op} {F : List Nat} {i : Nat} {x : Op} (h : OwnSl opO w (.slice A n cap) ys F) (hN : F.Nodup) (hx : ys[i]? = some x) : ∃ g off, A = some ⟨g, off, none⟩ ∧ g ∈ F := by
  obtain ⟨hi, rfl⟩ := List.getElem?_eq_some_iff.1 hx
  obtain ⟨g, off, cap', c, F1, e, hg, _⟩ := h.elem hN hi
  injection e with e1 e2 e3
  exact ⟨g, off, e1, hg⟩
theorem OwnSl.op_ok {w : World} {v : Value} {ys : List Op} {F : List Nat} {i : Nat} {x : Op} (h : OwnSl opO w v ys F) (hN : F.Nodup) (hx : ys[i]? = some x) : x.ok := by
  obtain ⟨hi, rfl⟩ := List.getElem?_eq_some_iff.1 hx
  obtain ⟨g, off, cap', c, F1, e, hg, _, _, _, ⟨m, rfl, hok, hm⟩, _⟩ := h.elem hN hi
  exact hok
theorem OwnSl.op_cells {w : World} {g off n cap : Nat} {ys : List Op} {F : List Nat} {i : Nat} {x : Op} (h : OwnSl opO w (.slice (some ⟨g, off, none⟩) n cap) ys F) (hN : F.Nodup) (hx : ys[i]? = some x) :
    ∃ m F1, (∀ j, j < 9 → w.cell? ⟨g, off + i * 9 + j, none⟩ = (x.cells m)[j]?) ∧ (∀ o, w.frozen? ⟨g, o, none⟩ = false) ∧ g ∈ F ∧ g ∉ F1 ∧ (∀ b ∈ F1, b ∈ F) ∧ F1.Nodup ∧ OwnSl strO w m x.record.fields F1 ∧
      ∀ w2 zs, (∀ b ∈ F, b ∉ F1 → w2.heap[b]? = w.heap[b]?) → OwnSl strO w2 m zs F1 → OwnSl opO w2 (.slice (some ⟨g, off, none⟩) n cap) (ys.set i ⟨x.kind, ⟨x.record.source, x.record.key, x.record.version, zs⟩, x.verdict⟩) F := by
  obtain ⟨hi, rfl⟩ := List.getElem?_eq_some_iff.1 hx
  obtain ⟨g', off', cap', c, F1, e, hg, hsub, hng, hN1, ⟨m, rfl, hok, hm⟩, _, hc, hf, hin, _⟩ := h.elem hN hi
  injection e with e1 e2 e3
  injection e1 with e1
  injection e1 with e1 e4 _
  subst e1; subst e4
  exact ⟨m, F1, hc, hf, hg, hng, hsub, hN1, hm, fun w2 zs hk hz => hin w2 _ hk ⟨m, rfl, hok, hz⟩⟩
theorem OwnSl.op_put {w : World} {g off n cap : Nat} {ys : List Op} {F : List Nat} {i j : Nat} {x x' : Op} {u : Value} (h : OwnSl opO w (.slice (some ⟨g, off, none⟩) n cap) ys F) (hN : F.Nodup) (hx : ys[i]? = some x) (hj : j < 9) (hf : x'.record.fields = x.record.fields) (hok : x'.ok) (hc : ∀ f, (x.cells f).set j u = x'.cells f) :
    OwnSl opO (w.setCell ⟨g, off + i * 9 + j, none⟩ u) (.slice (some ⟨g, off, none⟩) n cap) (ys.set i x') F ∧ (ys.set i x')[i]? = some x' := by
  obtain ⟨hi, rfl⟩ := List.getElem?_eq_some_iff.1 hx
  obtain ⟨g', off', cap', c, F1, e, hg, hsub, hng, hN1, ⟨m, rfl, _, hm⟩, _, _, _, _, hst⟩ := h.elem hN hi
  injection e with e1 e2 e3
  injection e1 with e1
  injection e1 with e1 e4 _
  subst e1; subst e4
  exact ⟨hst j u x' hj ⟨m, hc m, hok, by rw [hf]; exact hm.keep fun b hb => keep_setCell fun e => hng (by have e2 : b = g := e; exact e2 ▸ hb)⟩, by rw [List.getElem?_set_self hi]⟩
theorem op_fields {ys : List Op} {i : Nat} {x : Op} (hx : ys[i]? = some x) (y : Op) : (ys.set i y)[i]? = some y := by
  obtain ⟨hi, _⟩ := List.getElem?_eq_some_iff.1 hx
  rw [List.getElem?_set_self hi]
def opMk : Mk Op := ⟨fun o => 8 + o.record.fields.length, fun k x y =>
  y.kind = k ∧ y.record.source = k + 1 ∧ y.record.key = k + 1 + 1 ∧ y.record.version = k + 1 + 1 + 1 ∧ y.record.fields.length = x.record.fields.length ∧ MkS (k + 1 + 1 + 1 + 1) y.record.fields ∧
  y.verdict.a = k + 1 + 1 + 1 + 1 + (x.record.fields.length : Int) ∧ y.verdict.b = k + 1 + 1 + 1 + 1 + (x.record.fields.length : Int) + 1 ∧ y.verdict.same = ((k + 1 + 1 + 1 + 1 + (x.record.fields.length : Int) + 1 + 1) % 3 == 0) ∧ y.verdict.time = k + 1 + 1 + 1 + 1 + (x.record.fields.length : Int) + 1 + 1 + 1⟩

set_option maxHeartbeats 1000000 in
set_option maxRecDepth 20000 in
theorem markOpS_c (v : Value) (xs : List Op) (F : List Nat) (k : Int) (w : World) (h : OwnSl opO w v xs F) (hN : F.Nodup) (h0 : 0 ≤ k) (hb : k + (lstMk opMk).cnt xs ≤ 1152921504606846976) :
    Calls Tryz.prog 61 #[v, .int .i64 k] w fun e w2 => ∃ ys, e = .returned (.int .i64 (k + ((lstMk opMk).cnt xs : Nat))) ∧ OwnSl opO w2 v ys F ∧ (lstMk opMk).is k xs ys ∧ Chg F w w2 := by
  have hcn : (lstMk opMk).cnt xs = opMk.sum xs := rfl
  rw [hcn] at hb ⊢
  clear hcn
  obtain ⟨A, cap, rfl, hm⟩ := h.form
  go_enter Tryz.func61, Tryz.ntmps61
  go_wp2
  go_loopw [1, 5] (fun l i wr => ∃ (j : Nat) (ys : List Op), j ≤ xs.length ∧ i = .int .i64 j ∧ l = .int .i64 (k + (opMk.sum (xs.take j) : Nat)) ∧ OwnSl opO wr (.slice A xs.length cap) ys F ∧ Part opMk k xs ys j ∧ Chg F w wr) (fun _ i _ => xs.length - (intOf i).toNat)
  case atStart => exact ⟨0, xs, Nat.zero_le _, rfl, by simp [Mk.sum], h, .zero _ _ _, .refl _ _⟩
  case round =>
    obtain ⟨j, ys, hj, rfl, rfl, ho, hp, hc⟩ := hrel
    by_cases hlt : j < xs.length
    · obtain ⟨hy, hyx⟩ := hp.at_ hlt
      have hst := opMk.sum_step xs j hlt
      have hsa := opMk.sum_at xs j hlt
      obtain ⟨o, hxo⟩ : ∃ o, o = xs[j] := ⟨_, rfl⟩
      rw [← hxo] at hst hsa hyx
      have hcx : opMk.cnt o = 8 + o.record.fields.length := rfl
      obtain ⟨B, hB⟩ : ∃ B : Int, B = k + (opMk.sum (xs.take j) : Nat) := ⟨_, rfl⟩
      have HNX := hid (show B + 1 + 1 + 1 + 1 + (o.record.fields.length : Int) + 1 + 1 + 1 + 1 = k + (opMk.sum (xs.take (j + 1)) : Nat) by omega)
      have hB0 : 0 ≤ B := by omega
      have hB1 : B + 8 + (o.record.fields.length : Int) ≤ 1152921504606846976 := by omega
      have x0 : ys[j]? = some o := by rw [List.getElem?_eq_getElem hy, hyx]
      rw [← hB]
      have HB := hid hB
      have HXO := hid hxo
      clear hst hsa hcx hB hxo hyx
      obtain ⟨g, off, rfl, hg⟩ := ho.op_open hN x0
      have hI0 := (ho.op_ok hN x0)
      obtain ⟨hi0, ⟨hi1, hi2, hi3⟩, ⟨hi5, hi6, hi8⟩⟩ := hI0
      obtain ⟨m0, G0, cs0, fz0, hg0, _, _, _, _, _⟩ := ho.op_cells hN x0
      have c0 : wr.cell? ⟨g, off + j * 9, none⟩ = some (.int .i64 o.kind) := cs0 0 (by decide)
      have f0 := fz0 (off + j * 9)
      obtain ⟨o1, x1⟩ := ho.op_put (j := 0) (u := .int .i64 (B)) (x' := ⟨B, ⟨o.record.source, o.record.key, o.record.version, o.record.fields⟩, ⟨o.verdict.a, o.verdict.b, o.verdict.same, o.verdict.time⟩⟩) hN x0 (by decide) rfl ⟨by simp only [I64]; omega, ⟨hi1, hi2, hi3⟩, ⟨hi5, hi6, hi8⟩⟩ (fun _ => rfl)
      simp only [Nat.add_zero] at o1
      obtain ⟨m1, G1, cs1, fz1, _, _, _, _, _, _⟩ := o1.op_cells hN x1
      have c1 : (wr.setCell ⟨g, off + j * 9, none⟩ (.int .i64 (B))).cell? ⟨g, off + j * 9 + 1, none⟩ = some (.int .i64 o.record.source) := cs1 1 (by decide)
      have f1 := fz1 (off + j * 9 + 1)
      obtain ⟨o2, x2⟩ := o1.op_put (j := 1) (u := .int .i64 (B + 1)) (x' := ⟨B, ⟨B + 1, o.record.key, o.record.version, o.record.fields⟩, ⟨o.verdict.a, o.verdict.b, o.verdict.same, o.verdict.time⟩⟩) hN x1 (by decide) rfl ⟨by simp only [I64]; omega, ⟨by simp only [I64]; omega, hi2, hi3⟩, ⟨hi5, hi6, hi8⟩⟩ (fun _ => rfl)
      obtain ⟨m2, G2, cs2, fz2, _, _, _, _, _, _⟩ := o2.op_cells hN x2
      have c2 : ((wr.setCell ⟨g, off + j * 9, none⟩ (.int .i64 (B))).setCell ⟨g, off + j * 9 + 1, none⟩ (.int .i64 (B + 1))).cell? ⟨g, off + j * 9 + 2, none⟩ = some (.int .i64 o.record.key) := cs2 2 (by decide)
      have f2 := fz2 (off + j * 9 + 2)
      obtain ⟨o3, x3⟩ := o2.op_put (j := 2) (u := .int .i64 (B + 1 + 1)) (x' := ⟨B, ⟨B + 1, B + 1 + 1, o.record.version, o.record.fields⟩, ⟨o.verdict.a, o.verdict.b, o.verdict.same, o.verdict.time⟩⟩) hN x2 (by decide) rfl ⟨by simp only [I64]; omega, ⟨by simp only [I64]; omega, by simp only [I64]; omega, hi3⟩, ⟨hi5, hi6, hi8⟩⟩ (fun _ => rfl)
      obtain ⟨m3, G3, cs3, fz3, _, _, _, _, _, _⟩ := o3.op_cells hN x3
      have c3 : (((wr.setCell ⟨g, off + j * 9, none⟩ (.int .i64 (B))).setCell ⟨g, off + j * 9 + 1, none⟩ (.int .i64 (B + 1))).setCell ⟨g, off + j * 9 + 2, none⟩ (.int .i64 (B + 1 + 1))).cell? ⟨g, off + j * 9 + 3, none⟩ = some (.int .i64 o.record.version) := cs3 3 (by decide)
      have f3 := fz3 (off + j * 9 + 3)
      obtain ⟨o4, x4⟩ := o3.op_put (j := 3) (u := .int .i64 (B + 1 + 1 + 1)) (x' := ⟨B, ⟨B + 1, B + 1 + 1, B + 1 + 1 + 1, o.record.fields⟩, ⟨o.verdict.a, o.verdict.b, o.verdict.same, o.verdict.time⟩⟩) hN x3 (by decide) rfl ⟨by simp only [I64]; omega, ⟨by simp only [I64]; omega, by simp only [I64]; omega, by simp only [I64]; omega⟩, ⟨hi5, hi6, hi8⟩⟩ (fun _ => rfl)
      obtain ⟨m4, G4, cs4, fz4, _, _, hs4, hN4, hm4, in4⟩ := o4.op_cells hN x4
      obtain ⟨A4, cap4, e4, _⟩ := hm4.form
      subst e4
      have c4 : ((((wr.setCell ⟨g, off + j * 9, none⟩ (.int .i64 (B))).setCell ⟨g, off + j * 9 + 1, none⟩ (.int .i64 (B + 1))).setCell ⟨g, off + j * 9 + 2, none⟩ (.int .i64 (B + 1 + 1))).setCell ⟨g, off + j * 9 + 3, none⟩ (.int .i64 (B + 1 + 1 + 1))).cell? ⟨g, off + j * 9 + 4, none⟩ = some (.slice A4 o.record.fields.length cap4) := cs4 4 (by decide)
      obtain ⟨W4, hW4⟩ : ∃ W, W = ((((wr.setCell ⟨g, off + j * 9, none⟩ (.int .i64 (B))).setCell ⟨g, off + j * 9 + 1, none⟩ (.int .i64 (B + 1))).setCell ⟨g, off + j * 9 + 2, none⟩ (.int .i64 (B + 1 + 1))).setCell ⟨g, off + j * 9 + 3, none⟩ (.int .i64 (B + 1 + 1 + 1))) := ⟨_, rfl⟩
      rw [← hW4] at in4 hm4
      have hc4 : Chg F w W4 := by rw [hW4]; exact (((hc.setCell hg _).setCell hg _).setCell hg _).setCell hg _
      have hlt4 : ∀ b ∈ F, b < W4.heap.size := fun b hb => by rw [hW4]; simp only [World.size_setCell]; exact ho.lt b hb
      have HIN := hid in4
      have HW := hid hW4
      have HII := hid (And.intro hi5 (And.intro hi6 hi8))
      clear in4 hW4 cs0 cs1 cs2 cs3 cs4 fz0 fz1 fz2 fz3 fz4 hi0 hi1 hi2 hi3 hi5 hi6 hi8 o1 o2 o3 o4 x1 x2 x3 x0
      go_wp2_with fail
      rw [← HW.out]
      refine (markStringS_t _ o.record.fields G4 _ _ hm4 hN4 (by omega) (by omega)).mono ?_
      rintro e w5 ⟨zs, rfl, hz, hzl, hmk, hzc⟩
      have o5 := HIN.out w5 zs (fun b hb hn => hzc.block b (hlt4 b hb) hn) hz
      have hc5 := hc4.trans (hzc.mono hs4)
      have x5 := op_fields x4 (⟨B, ⟨B + 1, B + 1 + 1, B + 1 + 1 + 1, zs⟩, ⟨o.verdict.a, o.verdict.b, o.verdict.same, o.verdict.time⟩⟩)
      obtain ⟨hi5, hi6, hi8⟩ := HII.out
      clear c0 c1 c2 c3 c4 f0 f1 f2 f3 hm4 HW HIN hc4 hlt4 hz hzc
      obtain ⟨m5, G5, cs5, fz5, _, _, _, _, _, _⟩ := o5.op_cells hN x5
      have c5 : w5.cell? ⟨g, off + j * 9 + 5, none⟩ = some (.int .i64 o.verdict.a) := cs5 5 (by decide)
      have f5 := fz5 (off + j * 9 + 5)
      obtain ⟨o6, x6⟩ := o5.op_put (j := 5) (u := .int .i64 ((B + 1 + 1 + 1 + 1 + (o.record.fields.length : Int)))) (x' := ⟨B, ⟨B + 1, B + 1 + 1, B + 1 + 1 + 1, zs⟩, ⟨(B + 1 + 1 + 1 + 1 + (o.record.fields.length : Int)), o.verdict.b, o.verdict.same, o.verdict.time⟩⟩) hN x5 (by decide) rfl ⟨by simp only [I64]; omega, ⟨by simp only [I64]; omega, by simp only [I64]; omega, by simp only [I64]; omega⟩, ⟨by simp only [I64]; omega, hi6, hi8⟩⟩ (fun _ => rfl)
      obtain ⟨m6, G6, cs6, fz6, _, _, _, _, _, _⟩ := o6.op_cells hN x6
      have c6 : (w5.setCell ⟨g, off + j * 9 + 5, none⟩ (.int .i64 ((B + 1 + 1 + 1 + 1 + (o.record.fields.length : Int))))).cell? ⟨g, off + j * 9 + 6, none⟩ = some (.int .i64 o.verdict.b) := cs6 6 (by decide)
      have f6 := fz6 (off + j * 9 + 6)
      obtain ⟨o7, x7⟩ := o6.op_put (j := 6) (u := .int .i64 ((B + 1 + 1 + 1 + 1 + (o.record.fields.length : Int)) + 1)) (x' := ⟨B, ⟨B + 1, B + 1 + 1, B + 1 + 1 + 1, zs⟩, ⟨(B + 1 + 1 + 1 + 1 + (o.record.fields.length : Int)), (B + 1 + 1 + 1 + 1 + (o.record.fields.length : Int)) + 1, o.verdict.same, o.verdict.time⟩⟩) hN x6 (by decide) rfl ⟨by simp only [I64]; omega, ⟨by simp only [I64]; omega, by simp only [I64]; omega, by simp only [I64]; omega⟩, ⟨by simp only [I64]; omega, by simp only [I64]; omega, hi8⟩⟩ (fun _ => rfl)
      obtain ⟨m7, G7, cs7, fz7, _, _, _, _, _, _⟩ := o7.op_cells hN x7
      have c7 : ((w5.setCell ⟨g, off + j * 9 + 5, none⟩ (.int .i64 ((B + 1 + 1 + 1 + 1 + (o.record.fields.length : Int))))).setCell ⟨g, off + j * 9 + 6, none⟩ (.int .i64 ((B + 1 + 1 + 1 + 1 + (o.record.fields.length : Int)) + 1))).cell? ⟨g, off + j * 9 + 7, none⟩ = some (.bool o.verdict.same) := cs7 7 (by decide)
      have f7 := fz7 (off + j * 9 + 7)
      obtain ⟨o8, x8⟩ := o7.op_put (j := 7) (u := .bool (((B + 1 + 1 + 1 + 1 + (o.record.fields.length : Int)) + 1 + 1) % 3 == 0)) (x' := ⟨B, ⟨B + 1, B + 1 + 1, B + 1 + 1 + 1, zs⟩, ⟨(B + 1 + 1 + 1 + 1 + (o.record.fields.length : Int)), (B + 1 + 1 + 1 + 1 + (o.record.fields.length : Int)) + 1, (((B + 1 + 1 + 1 + 1 + (o.record.fields.length : Int)) + 1 + 1) % 3 == 0), o.verdict.time⟩⟩) hN x7 (by decide) rfl ⟨by simp only [I64]; omega, ⟨by simp only [I64]; omega, by simp only [I64]; omega, by simp only [I64]; omega⟩, ⟨by simp only [I64]; omega, by simp only [I64]; omega, hi8⟩⟩ (fun _ => rfl)
      obtain ⟨m8, G8, cs8, fz8, _, _, _, _, _, _⟩ := o8.op_cells hN x8
      have c8 : (((w5.setCell ⟨g, off + j * 9 + 5, none⟩ (.int .i64 ((B + 1 + 1 + 1 + 1 + (o.record.fields.length : Int))))).setCell ⟨g, off + j * 9 + 6, none⟩ (.int .i64 ((B + 1 + 1 + 1 + 1 + (o.record.fields.length : Int)) + 1))).setCell ⟨g, off + j * 9 + 7, none⟩ (.bool (((B + 1 + 1 + 1 + 1 + (o.record.fields.length : Int)) + 1 + 1) % 3 == 0))).cell? ⟨g, off + j * 9 + 8, none⟩ = some (.int .i64 o.verdict.time) := cs8 8 (by decide)
      have f8 := fz8 (off + j * 9 + 8)
      obtain ⟨o9, x9⟩ := o8.op_put (j := 8) (u := .int .i64 ((B + 1 + 1 + 1 + 1 + (o.record.fields.length : Int)) + 1 + 1 + 1)) (x' := ⟨B, ⟨B + 1, B + 1 + 1, B + 1 + 1 + 1, zs⟩, ⟨(B + 1 + 1 + 1 + 1 + (o.record.fields.length : Int)), (B + 1 + 1 + 1 + 1 + (o.record.fields.length : Int)) + 1, (((B + 1 + 1 + 1 + 1 + (o.record.fields.length : Int)) + 1 + 1) % 3 == 0), (B + 1 + 1 + 1 + 1 + (o.record.fields.length : Int)) + 1 + 1 + 1⟩⟩) hN x8 (by decide) rfl ⟨by simp only [I64]; omega, ⟨by simp only [I64]; omega, by simp only [I64]; omega, by simp only [I64]; omega⟩, ⟨by simp only [I64]; omega, by simp only [I64]; omega, by simp only [I64]; omega⟩⟩ (fun _ => rfl)
      simp only [List.set_set] at o9
      have HO9 := hid o9
      have HZ := hid (And.intro hzl hmk)
      clear o5 o6 o7 o8 o9 x5 x6 x7 x8 x9 cs5 cs6 cs7 cs8 fz5 fz6 fz7 fz8 hi5 hi6 hi8 hzl hmk
      go_wp2
      go_roundw
      case rel =>
        refine ⟨j + 1, ys.set j ⟨B, ⟨B + 1, B + 1 + 1, B + 1 + 1 + 1, zs⟩, ⟨(B + 1 + 1 + 1 + 1 + (o.record.fields.length : Int)), (B + 1 + 1 + 1 + 1 + (o.record.fields.length : Int)) + 1, (((B + 1 + 1 + 1 + 1 + (o.record.fields.length : Int)) + 1 + 1) % 3 == 0), (B + 1 + 1 + 1 + 1 + (o.record.fields.length : Int)) + 1 + 1 + 1⟩⟩, by omega, by go_num, by rw [← HNX.out], HO9.out, hp.step hlt ?_, (((hc5.setCell hg _).setCell hg _).setCell hg _).setCell hg _⟩
        rw [← HB.out, ← HXO.out]
        exact ⟨rfl, rfl, rfl, rfl, HZ.out.1, HZ.out.2, rfl, rfl, rfl, rfl⟩
      case measure => simp [intOf]; omega
    · go_wp2
      go_ret
      exact ⟨ys, ret_int (by rw [Mk.sum_all _ _ _ hlt]), ho, hp.all hlt, hc⟩

set_option maxHeartbeats 400000 in
theorem markBatch_c (v : Value) (xs : List Op) (F : List Nat) (k : Int) (w : World) (h : OwnSl opO w v xs F) (hN : F.Nodup) (h0 : 0 ≤ k) (hb : k + (lstMk opMk).cnt xs ≤ 1152921504606846976) :
    Calls Tryz.prog 15 #[.agg #[v], .int .i64 k] w fun e w2 => ∃ ys, e = .returned (.int .i64 (k + ((lstMk opMk).cnt xs : Nat))) ∧ OwnSl opO w2 v ys F ∧ (lstMk opMk).is k xs ys ∧ Chg F w w2 := by
  obtain ⟨A, cap, rfl, hm⟩ := h.form
  have x1 : Ext w (w.alloc (.cells #[.slice A xs.length cap] 40)) := (Ext.refl w).alloc _
  go_enter Tryz.func15, Tryz.ntmps15
  go_wp2_with fail
  refine (markOpS_c _ xs F k _ (h.ext x1) hN h0 hb).mono ?_
  rintro e w2 ⟨ys, rfl, ho, hk, hc⟩
  go_wp2
  go_ret
  exact ⟨ys, rfl, ho, hk, (Chg.of_ext x1).trans hc⟩

end Go.Proofs.YtfcbapaojoecgaaGreat

namespace Go.Proofs.YtfcbapaojoecgaaGreat
open Go.RowKit

theorem Blk.store3 {w : World} {g : Nat} {e : TypeId} {a b c : Value} (h : Blk w g e [a, b, c]) (x y z : Value) : Blk (((w.setCell ⟨g, 0, none⟩ x).setCell ⟨g, 1, none⟩ y).setCell ⟨g, 2, none⟩ z) g e [x, y, z] := by
  have b1 := Blk.store (done := []) h rfl x
  have b2 := Blk.store (done := [x]) b1 rfl y
  exact Blk.store (done := [x, y]) b2 rfl z
theorem Kp.store3 (g o : Nat) (a b c : Value) (w : World) : Kp g w (((w.setCell ⟨g, o, none⟩ a).setCell ⟨g, o + 1, none⟩ b).setCell ⟨g, o + 2, none⟩ c) := Kp.setCells g o [a, b, c] w
theorem Ext.store3 {w0 w : World} (h : Ext w0 w) {g : Nat} (hg : w0.heap.size ≤ g) (a b c : Value) : Ext w0 (((w.setCell ⟨g, 0, none⟩ a).setCell ⟨g, 1, none⟩ b).setCell ⟨g, 2, none⟩ c) := Ext.setCells hg [a, b, c] 0 h

set_option maxHeartbeats 2000000 in
set_option maxRecDepth 20000 in
theorem impl_cloneStore (v : Value) (s : Store) (w : World) (h : StoAt w v s) (hb : msRecs s.records ≤ 1048576) (hb2 : s.verdicts.length ≤ 1048576) :
    Calls Tryz.prog 46 #[v] w (StoNew w s · ·) := by
  obtain ⟨r, d, rfl, hI, hr, hd⟩ := h
  have xw : Ext w ((w.alloc (.cells #[.int .i64 s.version, r, d] 34)).alloc (.cells #[.int .i64 0, .slice none 0 0, .slice none 0 0] 34)) := ((Ext.refl w).alloc _).alloc _
  have bR := Blk.new (w.alloc (.cells #[.int .i64 s.version, r, d] 34)) 34 #[.int .i64 0, .slice none 0 0, .slice none 0 0]
  rw [World.size_alloc] at bR
  have bP := (Blk.new w 34 #[.int .i64 s.version, r, d]).ext ((Ext.refl _).alloc (.cells #[.int .i64 0, .slice none 0 0, .slice none 0 0] 34))
  obtain ⟨W0, hW0⟩ : ∃ W0, W0 = (w.alloc (.cells #[.int .i64 s.version, r, d] 34)).alloc (.cells #[.int .i64 0, .slice none 0 0, .slice none 0 0] 34) := ⟨_, rfl⟩
  have hsz : W0.heap.size = w.heap.size + 1 + 1 := by rw [hW0]; simp
  rw [← hW0] at bR bP xw
  have HP := hid (show ∀ W, Kp (w.heap.size + 1) W0 W → W.cell? ⟨w.heap.size, 0, none⟩ = some (.int .i64 s.version) ∧ W.cell? ⟨w.heap.size, 1, none⟩ = some r ∧ W.cell? ⟨w.heap.size, 2, none⟩ = some d from fun W y => by
    have b := bP.keep (y.2 _ (block_lt bP) (by omega))
    exact ⟨b.cells.1 0, b.cells.1 1, b.cells.1 2⟩)
  have HR := hid (show ∀ W, Ext W0 W → Blk W (w.heap.size + 1) 34 [.int .i64 0, .slice none 0 0, .slice none 0 0] from fun W y => bR.ext y)
  have HS := hid hsz
  have HX := hid xw
  have hI0 := hid hI
  clear bR bP hsz xw hI
  go_enter Tryz.func46, Tryz.ntmps46
  go_wp2_with fail
  rw [← hW0]
  clear hW0
  go_region_held3 (fun w' => w'.cell? ⟨w.heap.size, 0, none⟩ = some (.int .i64 s.version) ∧ w'.cell? ⟨w.heap.size, 1, none⟩ = some r ∧ w'.cell? ⟨w.heap.size, 2, none⟩ = some d) (exact HP.out _ (by repeat (first | with_reducible exact Kp.refl _ _ | with_reducible exact Ext.kp (Ext.drew (Ext.refl _)) | with_reducible refine Kp.trans ?_ (Kp.set _ _ _ _) | with_reducible refine Kp.trans ?_ (Ext.kp (by with_reducible assumption)))))
    (first
      | (go_at_call 95; refine (impl_cloneRecords _ s.records _ (hr.mono (HX.out.trans (by repeat (first | with_reducible exact Ext.refl _ | with_reducible assumption | with_reducible refine Ext.drew ?_ | with_reducible refine Ext.alloc ?_ _ | with_reducible refine Ext.trans ?_ (by with_reducible assumption))))) hb).mono ?_; rintro e wa ⟨va, Fa, rfl, ba, xa⟩; obtain ⟨Aa, ca, ea, _⟩ := ba.sl.form; subst ea; have b8 := HR.out wa (by repeat (first | with_reducible exact Ext.refl _ | with_reducible assumption | with_reducible refine Ext.drew ?_ | with_reducible refine Ext.alloc ?_ _ | with_reducible refine Ext.trans ?_ (by with_reducible assumption))); obtain ⟨⟨c80, c81, c82⟩, f8⟩ := (⟨⟨b8.cells.1 0, b8.cells.1 1, b8.cells.1 2⟩, b8.cells.2⟩ : (_ ∧ _ ∧ _) ∧ _))
      | (go_at_call 96; refine (slices_Clone_vB _ s.verdicts _ (hd.mono (HX.out.trans (by repeat (first | with_reducible exact Ext.refl _ | with_reducible assumption | with_reducible refine Ext.drew ?_ | with_reducible refine Ext.alloc ?_ _ | with_reducible refine Ext.trans ?_ (by with_reducible assumption))))) hb2).mono ?_; rintro e wb ⟨vb, rfl, bb, xb⟩; obtain ⟨Ab, cb, eb, _⟩ := bb.sl.form; subst eb; have b8 := HR.out wb (by repeat (first | with_reducible exact Ext.refl _ | with_reducible assumption | with_reducible refine Ext.drew ?_ | with_reducible refine Ext.alloc ?_ _ | with_reducible refine Ext.trans ?_ (by with_reducible assumption))); obtain ⟨⟨c80, c81, c82⟩, f8⟩ := (⟨⟨b8.cells.1 0, b8.cells.1 1, b8.cells.1 2⟩, b8.cells.2⟩ : (_ ∧ _ ∧ _) ∧ _)))
  all_goals
    have b9 := Blk.store3 b8 (.int .i64 s.version) (.slice Aa s.records.length ca) (.slice Ab s.verdicts.length cb)
    have r0 := b9.cells.1 0
    have r1 := b9.cells.1 1
    have r2 := b9.cells.1 2
    have hs2 := HS.out
    clear c80 c81 c82 f8
    go_wp2
    refine bodyPost_ret (v := .agg #[.int .i64 s.version, .slice Aa s.records.length ca, .slice Ab s.verdicts.length cb]) (by simp [results, Tryz.results46, go_sem, r0, r1, r2]) rfl ?_
    have R := Rows2.mk2 ba xb bb xa.size
    have hsz : W0.drew.heap.size = w.heap.size + 1 + 1 := hs2
    rw [hsz] at R ba
    obtain ⟨n1, n2⟩ := ba.below (g := w.heap.size + 1) (by omega)
    have n3 : (Value.slice Ab s.verdicts.length cb).ownBlock ≠ some (w.heap.size + 1) := fun e => by have h1 := (bb.lt.2 _ e).2; have h2 := xa.size; omega
    exact ⟨_, _, Fa, rfl, (R.kp (Kp.store3 (w.heap.size + 1) 0 _ _ _ _) n1 n2 n3).low (by omega), hI0.out, Ext.store3 (HX.out.trans (((Ext.refl W0).drew.trans xa).trans xb)) (by omega) _ _ _⟩
end Go.Proofs.YtfcbapaojoecgaaGreat
