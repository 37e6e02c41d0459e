/-
  WALK: slices.Insert of one element, at verdicts.
-/
import Derived.Test.YtblggajfdhjmjaaCopyM
import Derived.Test.YtblggajfdhjmjaaAppW
import Derived.Shelf.RegionOpenPlain
import Derived.Lib.Overlaps
import Derived.Lib.AppendZerosOnto
import Derived.Laws.Externs
import Derived.Laws.NewBlocks
namespace Go.Proofs.Ytblggajfdhjmjaa
open Go.RowKit

set_option maxHeartbeats 4000000 in
set_option maxRecDepth 100000 in
theorem ins_shift_v (g n c i gv : Nat) (cs vs : List Value) (cur : Array Value) (w : World) (hi : i < n) (hroom : n + 1 ≤ c) (hcur : cur.size = c * 4) (hh : w.heap[g]? = some (.cells cur 30 (0, 0))) (hv : w.heap[gv]? = some (.cells vs.toArray 30 (0, 0))) (hvb : gv ≠ g) (hcs : cs = cur.toList.take (n * 4)) (hnc : n ≤ c) (hn : n ≤ 1048576) (hc63 : c ≤ 9223372036854775807)
    (hvl : vs.length = 4) (h1c : ∀ u ∈ cs, u.oneCell' = true) (h1v : ∀ u ∈ vs, u.oneCell' = true) :
    Calls Try.prog 28 #[.slice (some ⟨g, 0, none⟩) n c, .int .i64 i, .slice (some ⟨gv, 0, none⟩) 1 1] w fun e w' =>
      e = .returned (.slice (some ⟨g, 0, none⟩) (n + 1) c) ∧ w' = (w.drew.setCells g ((i + 1) * 4) (cs.drop (i * 4))).setCells g (i * 4) vs := by
  have hcl : cs.length = n * 4 := by rw [hcs, List.length_take, Array.length_toList, hcur]; omega
  have hz2 : ¬ ((i : Int) = (n : Int)) := by omega
  have hov : ∀ lb cb, (callFunc 36 #[.slice (some ⟨gv, 0, none⟩) 1 1, .slice (some ⟨g, (i + 1) * 4, none⟩) lb cb]).run Try.prog w = .ok (.value (.bool false)) w := fun lb cb => by
    rw [run_callFunc_extern Try.func36 (by kernel_rfl) (by kernel_rfl) (by kernel_rfl) (e := Extern.SlicesOverlaps.overlaps #[26, 26] #[4]) (by kernel_rfl),
      Lib.run_overlaps_apart w 26 4 30 Try.underlying26 4 (fun w => by kernel_rfl) ⟨gv, 0, none⟩ ⟨g, (i + 1) * 4, none⟩ 1 1 lb cb hvb 30 30 vs.length cur.size (by unfold World.shape?; rw [hv]; simp) (by unfold World.shape?; rw [hh]) (by omega) (frozen_of_row w gv 0 _ _ hv) (frozen_of_row w gv _ _ _ hv)]
    rfl
  have hcs2 : ∀ j v, cs[j]? = some v → w.cell? ⟨g, j, none⟩ = some v := fun j v hj => by
    have h1 := (List.getElem?_eq_some_iff.1 hj).1
    rw [cell_of_row w g j cur _ (0, 0) hh]
    rw [hcs, List.getElem?_take, if_pos (by omega)] at hj
    rw [← hj]; simp
  have hsp : ∀ (W : World) j, W.heap[g]? = w.heap[g]? → j < (n + 1) * 4 → (W.cell? ⟨g, j, none⟩).isSome = true := fun W j hW hj => by
    rw [cell_of_row W g j cur _ (0, 0) (hW.trans hh), Array.getElem?_eq_getElem (by omega)]; rfl
  have hfz : ∀ (W : World) j, W.heap[g]? = w.heap[g]? → W.frozen? ⟨g, j, none⟩ = false := fun W j hW => frozen_of_row W g j cur _ (hW.trans hh)
  have hsz : (Try.prog.info? 30).map (·.size) = some 4 := by
    obtain ⟨i0, z0, hi0, hz0, hsz0, _, _⟩ := elemVer.info
    rw [hi0]; simp [hsz0]; rfl
  have hdl : (cs.drop (i * 4)).length = (n - i) * 4 := by rw [List.length_drop, hcl]; omega
  have hcp1 : ∀ ty dc sc, (Builtin.copy_ #[26, 26] ty #[.slice (some ⟨g, (i + 1) * 4, none⟩) (n - i) dc, .slice (some ⟨g, i * 4, none⟩) (n + 1 - i) sc]).run Try.prog w.drew = .ok (goInt ((n - i : Nat) : Int)) (w.drew.setCells g ((i + 1) * 4) (cs.drop (i * 4))) := fun ty dc sc =>
    run_copy_many w.drew _ _ ty 30 4 (n - i) g ((i + 1) * 4) (n - i) dc ⟨g, i * 4, none⟩ (n + 1 - i) sc (cs.drop (i * 4)) Try.underlying26 hsz (by simp only [Nat.min_def]; split <;> omega) hdl
      (fun j v hj => by rw [add_eq]; exact hcs2 (i * 4 + j) v (by rwa [List.getElem?_drop] at hj))
      (fun j hj => hsp w.drew _ rfl (by rw [hdl] at hj; omega)) (fun j hj => hfz w.drew _ rfl) (fun v hv => h1c v (List.mem_of_mem_drop hv))
  obtain ⟨W1, hW1⟩ : ∃ W1, W1 = w.drew.setCells g ((i + 1) * 4) (cs.drop (i * 4)) := ⟨_, rfl⟩
  have hB1 : W1.heap[g]? = some (.cells (cur.toList.take ((i + 1) * 4) ++ (cs.drop (i * 4) ++ cur.toList.drop ((i + 1) * 4 + (cs.drop (i * 4)).length))).toArray 30 (0, 0)) := by
    rw [hW1]; exact heap_setCells _ _ w.drew cur hh (by rw [hdl]; omega)
  have hv1 : W1.heap[gv]? = some (.cells vs.toArray 30 (0, 0)) := by rw [hW1, setCells_keep hvb]; exact hv
  have hlB : (cur.toList.take ((i + 1) * 4) ++ (cs.drop (i * 4) ++ cur.toList.drop ((i + 1) * 4 + (cs.drop (i * 4)).length))).length = c * 4 := by simp only [List.length_append, List.length_take, List.length_drop, Array.length_toList]; omega
  have hcp2 : ∀ ty dc, (Builtin.copy_ #[26, 26] ty #[.slice (some ⟨g, i * 4, none⟩) (n + 1 - i) dc, .slice (some ⟨gv, 0, none⟩) 1 1]).run Try.prog W1 = .ok (goInt ((1 : Nat) : Int)) (W1.setCells g (i * 4) vs) := fun ty dc =>
    run_copy_many W1 _ _ ty 30 4 1 g (i * 4) (n + 1 - i) dc ⟨gv, 0, none⟩ 1 1 vs Try.underlying26 hsz (by simp only [Nat.min_def]; split <;> omega) (by rw [hvl])
      (fun j v hj => by rw [add_eq, Nat.zero_add, cell_of_row W1 gv j _ _ (0, 0) hv1]; simpa using hj)
      (fun j hj => by rw [cell_of_row W1 g _ _ _ (0, 0) hB1, List.getElem?_toArray, List.getElem?_eq_getElem (by rw [hlB]; omega)]; rfl)
      (fun j hj => frozen_of_row W1 g _ _ _ hB1) h1v
  rw [← hW1] at hcp1
  have mixed : Try.prog.follows .mixedOrders = true := by kernel_rfl
  have hw1 : IntKind.i64.wrap ((i : Int) + 1) = (i : Int) + 1 := by rw [IntKind.wrap_i64]; omega
  have hw2 : IntKind.i64.wrap ((n : Int) + 1) = (n : Int) + 1 := by rw [IntKind.wrap_i64]; omega
  have hb0 : i ≤ n := by omega
  have hb1 : (0 : Int) ≤ (i : Int) + 1 := by omega
  have hb2 : ¬ (c = i + 1) := by omega
  have hb3 : (i : Int) ≤ (n : Int) + 1 := by omega
  have hb4 : ¬ (c = i) := by omega
  have hb5 : ¬ ((c : Int) < (n : Int) + 1) := by omega
  have hb6 : (0 : Int) ≤ (n : Int) + 1 := by omega
  have hb7 : (n : Int) + 1 ≤ (c : Int) := by omega
  have HW := hid hW1
  clear hh hv hcs hcs2 hsp hfz hsz hdl hB1 hv1 hlB hcl hW1
  go_enter Try.func28, Try.ntmps28
  go_wp2_with (simp only [hov])
  go_region_law_o (refine step_copy_runI rfl _ _ 26 26 rfl _ _ (by simp [Act.eval, Act.put]) (by simp [Act.eval, Act.put]) (hcp1 _ _ _) ?_)
  go_wp2_with (at_builtin; refine wpList_copy_runI _ rfl _ _ 26 26 rfl _ _ rfl rfl (hcp2 _ _) ?_)
  go_ret
  exact ⟨rfl, by rw [HW.out]⟩

set_option maxHeartbeats 4000000 in
set_option maxRecDepth 100000 in
theorem ins_grow_v (g n c i gv : Nat) (cs vs : List Value) (cur : Array Value) (w : World) (hi : i < n) (hroom : c < n + 1) (hcur : cur.size = c * 4) (hh : w.heap[g]? = some (.cells cur 30 (0, 0))) (hv : w.heap[gv]? = some (.cells vs.toArray 30 (0, 0))) (hvb : gv ≠ g) (hcs : cs = cur.toList.take (n * 4)) (hnc : n ≤ c) (hn : n ≤ 1048576) (hc63 : c ≤ 9223372036854775807)
    (hvl : vs.length = 4) (h1c : ∀ u ∈ cs, u.oneCell' = true) (h1v : ∀ u ∈ vs, u.oneCell' = true) :
    Calls Try.prog 28 #[.slice (some ⟨g, 0, none⟩) n c, .int .i64 i, .slice (some ⟨gv, 0, none⟩) 1 1] w fun e w' =>
      ∃ G cur2, e = .returned (.slice (some ⟨w.heap.size, 0, none⟩) (n + 1) G) ∧ n + 1 ≤ G ∧ G ≤ maxLen ∧ w'.heap[w.heap.size]? = some (.cells cur2 30 (0, 0)) ∧ cur2.size = G * 4 ∧ cur2.toList.take ((n + 1) * 4) = cs.take (i * 4) ++ (vs ++ cs.drop (i * 4)) ∧ Ext w w' := by
  have hcl : cs.length = n * 4 := by rw [hcs, List.length_take, Array.length_toList, hcur]; omega
  have hz2 : ¬ ((i : Int) = (n : Int)) := by omega
  have hz3 : (c : Int) < (n : Int) + 1 := by omega
  obtain ⟨i0, z0, hi0, hz0, hsz0, hby0, hzc0⟩ := elemVer.info
  have hs4 : i0.size = 4 := hsz0
  have hzc4 : z0.cells.size = 4 := hzc0
  have hsz : (Try.prog.info? 30).map (·.size) = some 4 := by rw [hi0]; simp [hs4]
  have hgw : g < w.heap.size := block_lt hh
  have hvw : gv < w.heap.size := block_lt hv
  have hcs2 : ∀ (W : World), W.heap[g]? = w.heap[g]? → ∀ j v, cs[j]? = some v → W.cell? ⟨g, j, none⟩ = some v := fun W hW j v hj => by
    have h1 := (List.getElem?_eq_some_iff.1 hj).1
    rw [cell_of_row W g j cur _ (0, 0) (hW.trans hh)]
    rw [hcs, List.getElem?_take, if_pos (by omega)] at hj
    rw [← hj]; simp
  have hkk : (n : Int) + 1 - (i : Int) = ((n + 1 - i : Nat) : Int) := by omega
  have hik : i + (n + 1 - i) = n + 1 := by omega
  have hold : (Builtin.firstCells i0.size i (.slice (some ⟨g, 0, none⟩) i c)).run Try.prog w.drew = .ok (cs.take (i * 4)).toArray w.drew := by
    rw [hs4]
    exact run_firstCells_some w.drew 4 i ⟨g, 0, none⟩ i c (cs.take (i * 4)) (by rw [List.length_take]; omega) (fun j v hj => by
      rw [add_eq, Nat.zero_add]
      rw [List.getElem?_take] at hj
      split at hj
      · exact hcs2 w.drew rfl j v hj
      · cases hj)
  obtain ⟨G, hG⟩ : ∃ G, G = grownCap w (n + 1) c 30 := ⟨_, rfl⟩
  have hGn : n + 1 ≤ G := by rw [hG]; exact grownCap_ge w _ _ _
  have hG63 : G ≤ maxLen := by rw [hG]; exact grownCap_le_maxLen w (n + 1) c 30 (by unfold maxLen; omega)
  obtain ⟨ROW, hROW⟩ : ∃ ROW : Array Value, ROW = (cs.take (i * 4)).toArray ++ Builtin.zeroCells z0.cells (n + 1 - i) ++ Builtin.zeroCells z0.cells (G - (n + 1)) := ⟨_, rfl⟩
  have hrz : ∀ ty, (Builtin.append_ #[26, 3] ty #[.slice (some ⟨g, 0, none⟩) i c, .int .i64 ((n : Int) + 1 - (i : Int))]).run Try.prog w =
      .ok (.slice (some ⟨w.heap.size, 0, none⟩) (n + 1) G) (w.drew.alloc (.cells ROW 30)) := fun ty => by
    have h := Lib.run_append_grow_zeros w 26 3 ty 30 i0 z0 .i64 .i64 Try.underlying26 Try.underlying3 hi0 hz0 (some ⟨g, 0, none⟩) i c (cs.take (i * 4)) hold (n + 1 - i) (by omega) (by omega) (by omega) (by omega) (by rw [hby0]; omega) (by rw [hby0, hik]; exact growslice_fits hroom (by omega))
    rw [hik] at h
    rw [hkk, hROW, hG]
    exact h
  have hRs : ROW.size = G * 4 := by
    rw [hROW]
    simp only [Array.size_append, List.size_toArray, List.length_take, Builtin.zeroCells, Array.size_map, Array.size_range, hzc4]
    omega
  have hRt : ROW.toList.take (i * 4) = cs.take (i * 4) := by
    rw [hROW]
    simp only [Array.toList_append]
    rw [List.append_assoc, List.take_append_of_le_length (by simp; omega), List.take_of_length_le (by simp; omega)]
  obtain ⟨W1, hW1⟩ : ∃ W1, W1 = w.drew.alloc (.cells ROW 30) := ⟨_, rfl⟩
  rw [← hW1] at hrz
  have hN1 : W1.heap[w.heap.size]? = some (.cells ROW 30 (0, 0)) := by rw [hW1]; exact heap_alloc_new w.drew _
  have hX1 : Ext w W1 := by rw [hW1]; exact (Ext.refl w).drew.alloc _
  have hV1 : W1.heap[gv]? = some (.cells vs.toArray 30 (0, 0)) := (hX1.block hvw).trans hv
  have hO1 : W1.heap[g]? = w.heap[g]? := hX1.block hgw
  have hne1 : gv ≠ w.heap.size := by omega
  have hne2 : g ≠ w.heap.size := by omega
  have hdl : (cs.drop (i * 4)).length = (n - i) * 4 := by rw [List.length_drop, hcl]; omega
  have hcpA : ∀ (W : World), W.heap = W1.heap → ∀ ty dc, (Builtin.copy_ #[26, 26] ty #[.slice (some ⟨w.heap.size, i * 4, none⟩) (n + 1 - i) dc, .slice (some ⟨gv, 0, none⟩) 1 1]).run Try.prog W = .ok (goInt ((1 : Nat) : Int)) (W.setCells w.heap.size (i * 4) vs) := fun W hW ty dc => by
    have hn : W.heap[w.heap.size]? = some (.cells ROW 30 (0, 0)) := by rw [hW]; exact hN1
    have hv2 : W.heap[gv]? = some (.cells vs.toArray 30 (0, 0)) := by rw [hW]; exact hV1
    exact run_copy_many W _ _ ty 30 4 1 w.heap.size (i * 4) (n + 1 - i) dc ⟨gv, 0, none⟩ 1 1 vs Try.underlying26 hsz (by simp only [Nat.min_def]; split <;> omega) (by rw [hvl])
      (fun j v hj => by rw [add_eq, Nat.zero_add, cell_of_row W gv j _ _ (0, 0) hv2]; simpa using hj)
      (fun j hj => by rw [cell_of_row W _ _ _ _ (0, 0) hn, Array.getElem?_eq_getElem (by omega)]; rfl)
      (fun j hj => frozen_of_row W _ _ _ _ hn) h1v
  obtain ⟨W2, hW2⟩ : ∃ W2, W2 = W1.setCells w.heap.size (i * 4) vs := ⟨_, rfl⟩
  have hN2 : W2.heap[w.heap.size]? = some (.cells (ROW.toList.take (i * 4) ++ (vs ++ ROW.toList.drop (i * 4 + vs.length))).toArray 30 (0, 0)) := by rw [hW2]; exact heap_setCells _ _ W1 ROW hN1 (by omega)
  have hl2 : (ROW.toList.take (i * 4) ++ (vs ++ ROW.toList.drop (i * 4 + vs.length))).length = G * 4 := by simp only [List.length_append, List.length_take, List.length_drop, Array.length_toList]; omega
  have hO2 : W2.heap[g]? = w.heap[g]? := by rw [hW2, setCells_keep hne2]; exact hO1
  have hcpB : ∀ (W : World), W.heap = W2.heap → ∀ ty dc sc, (Builtin.copy_ #[26, 26] ty #[.slice (some ⟨w.heap.size, (i + 1) * 4, none⟩) (n - i) dc, .slice (some ⟨g, i * 4, none⟩) (n - i) sc]).run Try.prog W = .ok (goInt ((n - i : Nat) : Int)) (W.setCells w.heap.size ((i + 1) * 4) (cs.drop (i * 4))) := fun W hW ty dc sc => by
    have hn := (show W.heap[w.heap.size]? = W2.heap[w.heap.size]? by rw [hW]).trans hN2
    exact run_copy_many W _ _ ty 30 4 (n - i) w.heap.size ((i + 1) * 4) (n - i) dc ⟨g, i * 4, none⟩ (n - i) sc (cs.drop (i * 4)) Try.underlying26 hsz (by simp only [Nat.min_def]; split <;> omega) hdl
      (fun j v hj => by rw [add_eq]; exact hcs2 W (by rw [hW]; exact hO2) (i * 4 + j) v (by rwa [List.getElem?_drop] at hj))
      (fun j hj => by rw [cell_of_row W _ _ _ _ (0, 0) hn, List.getElem?_toArray, List.getElem?_eq_getElem (by rw [hl2]; omega)]; rfl)
      (fun j hj => frozen_of_row W _ _ _ _ hn) (fun v hv => h1c v (List.mem_of_mem_drop hv))
  have HE := hid (show ∀ (W : World), W.heap = (W2.setCells w.heap.size ((i + 1) * 4) (cs.drop (i * 4))).heap → ∃ cur2 : Array Value, W.heap[w.heap.size]? = some (.cells cur2 30 (0, 0)) ∧ cur2.size = G * 4 ∧ cur2.toList.take ((n + 1) * 4) = cs.take (i * 4) ++ (vs ++ cs.drop (i * 4)) ∧ ∀ b, b < w.heap.size → W.heap[b]? = w.heap[b]? from fun W hW => by
    have hn := heap_setCells (g := w.heap.size) (e := 30) (cs.drop (i * 4)) ((i + 1) * 4) W2 _ hN2 (by simp only [List.size_toArray, hl2, hdl]; omega)
    refine ⟨_, by rw [hW]; exact hn, ?_, ?_, fun b hb => ?_⟩
    · simp only [List.size_toArray, List.length_append, List.length_take, List.length_drop, hl2]; omega
    · have e1 : (ROW.toList.take (i * 4) ++ (vs ++ ROW.toList.drop (i * 4 + vs.length))).take ((i + 1) * 4) = cs.take (i * 4) ++ vs := by
        rw [hRt, ← List.append_assoc, List.take_append_of_le_length (by simp only [List.length_append, List.length_take]; omega), List.take_of_length_le (by simp only [List.length_append, List.length_take]; omega)]
      rw [List.toList_toArray, List.toList_toArray, e1, List.append_assoc, ← List.append_assoc, ← List.append_assoc, List.take_append_of_le_length (by simp only [List.length_append, List.length_take, hdl]; omega), List.take_of_length_le (by simp only [List.length_append, List.length_take, hdl]; omega), List.append_assoc]
    · rw [hW, setCells_keep (by omega), hW2, setCells_keep (by omega)]
      exact hX1.block hb)
  have hb0 : i ≤ n := by omega
  have mixed : Try.prog.follows .mixedOrders = true := by kernel_rfl
  have hw1 : IntKind.i64.wrap ((i : Int) + 1) = (i : Int) + 1 := by rw [IntKind.wrap_i64]; omega
  have hw2 : IntKind.i64.wrap ((n : Int) + 1) = (n : Int) + 1 := by rw [IntKind.wrap_i64]; omega
  have hb1 : (0 : Int) ≤ (i : Int) + 1 := by omega
  have hb3 : (i : Int) ≤ (n : Int) := by omega
  have hb4 : ¬ (c = i) := by omega
  have hGi : ¬ (G = i) := by omega
  have hGj : ¬ (G = i + 1) := by omega
  have hGk : (i : Int) ≤ (n : Int) + 1 := by omega
  have HG := hid (And.intro hGn hG63)
  have HW1 := hid hW1
  have HW2 := hid hW2
  have hGm : G ≤ 9223372036854775807 := by unfold maxLen at hG63; omega
  clear hh hv hcs hcs2 hold hkk hik hG hROW hRs hRt hN1 hX1 hV1 hO1 hdl hN2 hl2 hO2 hcl hsz hG63 hW2
  go_enter Try.func28, Try.ntmps28
  go_wp2_with (first
    | (at_builtin; refine Lib.wpList_append_run _ rfl _ _ _ _ rfl _ _ rfl rfl _ _ (hrz _) ?_)
    | (at_builtin; refine wpList_copy_runI _ rfl _ _ 26 26 rfl _ _ rfl rfl (hcpA _ (by first | rfl | (rw [HW1.out]; rfl)) _ _) ?_))
  go_region_law_o (refine step_copy_runI rfl _ _ 26 26 rfl (.slice (some ⟨w.heap.size, (i + 1) * 4, none⟩) (n - i) (G - (i + 1))) (.slice (some ⟨g, i * 4, none⟩) (n - i) (c - i)) (by simp [Act.eval, Act.put]) (by simp [Act.eval, Act.put]) (hcpB _ (by first | (rw [HW2.out]; rfl) | (rw [HW2.out, HW1.out]; rfl)) 3 (G - (i + 1)) (c - i)) ?_)
  go_wp2
  go_ret
  obtain ⟨cur2, c1, c2, c3, _⟩ := HE.out (((w.alloc (.cells ROW 30)).drew.setCells w.heap.size (i * 4) vs).drew.setCells w.heap.size ((i + 1) * 4) (cs.drop (i * 4))) (setCells_heap _ _ (by rw [HW2.out, HW1.out]; rfl))
  refine ⟨G, cur2, rfl, HG.out.1, HG.out.2, c1, c2, c3, ?_⟩
  try rw [HW1.out]
  repeat (first | exact Ext.refl _ | refine Ext.drew ?_ | refine Ext.alloc ?_ _ | refine Ext.setCells (Nat.le_refl _) _ _ ?_)

/-- slices.Insert of one element, cell by cell -/
theorem slices_Insert_v (v : Value) (cs c : List Value) (n i base gv : Nat) (w : World) (h : w.ownsRow base 30 4 v n cs) (hi : i ≤ n) (hn : n ≤ 1048576) (hb : base ≤ w.heap.size) (hc4 : c.length = 4)
    (hv : w.heap[gv]? = some (.cells c.toArray 30 (0, 0))) (hne : v.ownBlock ≠ some gv) (h1c : ∀ u ∈ cs, u.oneCell' = true) (h1v : ∀ u ∈ c, u.oneCell' = true) :
    Calls Try.prog 28 #[v, .int .i64 i, .slice (some ⟨gv, 0, none⟩) 1 1] w fun e w2 => ∃ v2, e = .returned v2 ∧ w2.ownsRow base 30 4 v2 (n + 1) (cs.take (i * 4) ++ (c ++ cs.drop (i * 4))) ∧
      (∀ w0 : World, w0.heap.size ≤ base → Ext w0 w → Ext w0 w2) ∧ (∀ b, b < w.heap.size → v.ownBlock ≠ some b → w2.heap[b]? = w.heap[b]?) ∧ w.heap.size ≤ w2.heap.size := by
  by_cases hin : i < n
  · rcases h.2 with ⟨_, h0⟩ | ⟨g, cap, cur, rfl, hbg, hh, hnc, hcm, hcs, htk⟩
    · omega
    · have hgv : gv ≠ g := fun e => hne (by rw [e]; rfl)
      have hc63 : cap ≤ 9223372036854775807 := by unfold maxLen at hcm; omega
      have hcl : cs.length = n * 4 := h.1
      have hcul : cur.toList.length = cap * 4 := by rw [Array.length_toList]; exact hcs
      by_cases hroom : n + 1 ≤ cap
      · refine (ins_shift_v g n cap i gv cs c cur w hin hroom hcs hh hv hgv htk.symm hnc hn hc63 hc4 h1c h1v).mono ?_
        rintro e w2 ⟨rfl, rfl⟩
        have hdl : (cs.drop (i * 4)).length = (n - i) * 4 := by rw [List.length_drop, hcl]; omega
        have hB1 := heap_setCells (g := g) (e := 30) (cs.drop (i * 4)) ((i + 1) * 4) w.drew cur hh (by rw [hdl]; omega)
        have hlB : (cur.toList.take ((i + 1) * 4) ++ (cs.drop (i * 4) ++ cur.toList.drop ((i + 1) * 4 + (cs.drop (i * 4)).length))).length = cap * 4 := by simp only [List.length_append, List.length_take, List.length_drop, Array.length_toList]; omega
        have hB2 := heap_setCells (g := g) (e := 30) c (i * 4) _ _ hB1 (by simp only [List.size_toArray, hlB, hc4]; omega)
        refine ⟨_, rfl, ⟨?_, .inr ⟨g, cap, _, rfl, hbg, hB2, hroom, hcm, ?_, ?_⟩⟩, fun w0 h0 hx => ?_, fun b hb2 hne2 => ?_, ?_⟩
        · simp only [List.length_append, List.length_take, List.length_drop, hcl, hc4]; omega
        · simp only [List.size_toArray, List.length_append, List.length_take, List.length_drop, hlB, hc4]; omega
        · have e1 : (cur.toList.take ((i + 1) * 4) ++ (cs.drop (i * 4) ++ cur.toList.drop ((i + 1) * 4 + (cs.drop (i * 4)).length))).take (i * 4) = cs.take (i * 4) := by
            rw [List.take_append_of_le_length (by rw [List.length_take, hcul]; omega), List.take_take, Nat.min_eq_left (by omega), ← htk, List.take_take, Nat.min_eq_left (by omega)]
          have e2 : (cur.toList.take ((i + 1) * 4) ++ (cs.drop (i * 4) ++ cur.toList.drop ((i + 1) * 4 + (cs.drop (i * 4)).length))).drop (i * 4 + c.length) = cs.drop (i * 4) ++ cur.toList.drop ((i + 1) * 4 + (cs.drop (i * 4)).length) := by
            rw [hc4, show i * 4 + 4 = (i + 1) * 4 by omega, List.drop_append_of_le_length (by rw [List.length_take, hcul]; omega), List.drop_of_length_le (by rw [List.length_take, hcul]; omega), List.nil_append]
          rw [List.toList_toArray, List.toList_toArray, e1, e2, ← List.append_assoc c, ← List.append_assoc, List.take_append_of_le_length (by simp only [List.length_append, List.length_take, hdl, hcl, hc4]; omega), List.take_of_length_le (by simp only [List.length_append, List.length_take, hdl, hcl, hc4]; omega)]
        · exact Ext.setCells (Nat.le_trans h0 hbg) _ _ (Ext.setCells (Nat.le_trans h0 hbg) _ _ hx.drew)
        · have hbg2 : b ≠ g := fun e => hne2 (by rw [e]; rfl)
          rw [setCells_keep hbg2, setCells_keep hbg2]; rfl
        · rw [setCells_size, setCells_size]; exact Nat.le_refl _
      · refine (ins_grow_v g n cap i gv cs c cur w hin (by omega) hcs hh hv hgv htk.symm hnc hn hc63 hc4 h1c h1v).mono ?_
        rintro e w2 ⟨G, cur2, rfl, hG1, hG2, hN, hs2, ht2, hx2⟩
        exact ⟨_, rfl, ⟨by simp only [List.length_append, List.length_take, List.length_drop, hcl, hc4]; omega, .inr ⟨w.heap.size, G, cur2, rfl, hb, hN, hG1, hG2, hs2, ht2⟩⟩, fun w0 h0 hx => hx.trans hx2, fun b hb2 _ => hx2.block hb2, hx2.size⟩
  · obtain rfl : i = n := by omega
    have hlt := h.lt
    have hcl : cs.length = i * 4 := h.1
    obtain ⟨i0, z0, hi0, hz0, hsz0, hby0, hzc0⟩ := elemVer.info
    have e1 : cs.take (i * 4) ++ (c ++ cs.drop (i * 4)) = cs ++ c := by rw [List.take_of_length_le (by omega), List.drop_of_length_le (by omega), List.append_nil]
    rw [e1]
    obtain ⟨A, cap, hvA, hcap⟩ : ∃ A cap, v = .slice A i cap ∧ cap ≤ 9223372036854775807 := by
      rcases h.2 with ⟨rfl, h0⟩ | ⟨g, cap, cur, rfl, _, _, _, hcm, _⟩
      · exact ⟨none, 0, by rw [h0], by omega⟩
      · exact ⟨_, _, rfl, by unfold maxLen at hcm; omega⟩
    have hcap2 : i ≤ cap := by
      rcases h.2 with ⟨rfl, h0⟩ | ⟨g, cap2, cur, rfl, _, _, hnc, _, _⟩
      · omega
      · injection hvA with _ _ e; omega
    have HO := hid h
    have HL := hid hlt
    rw [hvA] at HO HL ⊢
    have hbb : (i : Int) ≤ (cap : Int) := by omega
    clear hvA h hlt hne e1
    by_cases hci : cap = i
    · replace hci := hci.symm
      subst hci
      go_enter Try.func28, Try.ntmps28
      go_wp2_with (at_builtin; refine wpList_append_own_at w rfl _ _ 26 rfl base 30 i0 z0 4 32 Try.underlying26 hi0 hz0 hsz0 hby0 hzc0 (by decide) (.slice A i i) i cs rfl HO.out ⟨gv, 0, none⟩ 1 1 c rfl (by rw [hc4]) (fun j u hj => by rw [add_eq, Nat.zero_add, cell_of_row w gv j _ _ (0, 0) hv]; simpa using hj) h1v (by unfold maxLen; omega) (by omega) hb ?_; intro v9 w9 hown hgr _ hat)
      go_ret
      exact ⟨_, rfl, hown, fun w0 h0 hx => hx.grown hgr fun g hg => Nat.le_trans h0 (HL.out g hg).1, fun b hb2 hne2 => hgr.block b hb2 (fun e => hne2 e.symm), hgr.size⟩
    · skip
      go_enter Try.func28, Try.ntmps28
      go_wp2_with (at_builtin; refine wpList_append_own_at w rfl _ _ 26 rfl base 30 i0 z0 4 32 Try.underlying26 hi0 hz0 hsz0 hby0 hzc0 (by decide) (.slice A i cap) i cs rfl HO.out ⟨gv, 0, none⟩ 1 1 c rfl (by rw [hc4]) (fun j u hj => by rw [add_eq, Nat.zero_add, cell_of_row w gv j _ _ (0, 0) hv]; simpa using hj) h1v (by unfold maxLen; omega) (by omega) hb ?_; intro v9 w9 hown hgr _ hat)
      go_ret
      exact ⟨_, rfl, hown, fun w0 h0 hx => hx.grown hgr fun g hg => Nat.le_trans h0 (HL.out g hg).1, fun b hb2 hne2 => hgr.block b hb2 (fun e => hne2 e.symm), hgr.size⟩

end Go.Proofs.Ytblggajfdhjmjaa
