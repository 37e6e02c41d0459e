/-
  WALK: slices.Delete at verdicts, of one element.
-/
import Derived.Test.YtblggajfdhjmjaaRow
import Derived.Test.YtblggajfdhjmjaaAppW
import Derived.Deep.RegionLaw
import Derived.Shelf.RegionOpenPlain
namespace Go.Proofs.Ytblggajfdhjmjaa
open Go.RowKit

theorem vers_flat {w : World} : ∀ {xs : List Verdict} {cs : List Value} {F : List Nat}, OwnCells verdictO w cs xs F → cs = xs.flatMap Verdict.cells ∧ (∀ x ∈ xs, x.ok) ∧ F = []
  | [], _, _, h => ⟨h.1, fun _ h => (by cases h), h.2⟩
  | x :: xs, _, _, ⟨c, d, F1, F2, h1, h2, h3, h4⟩ => by
    obtain ⟨e1, e2, e3⟩ := vers_flat h4
    obtain ⟨⟨k1, k2⟩, k3⟩ := h3
    subst e3; subst k3
    refine ⟨by rw [h1, e1, List.flatMap_cons]; exact congrArg (· ++ _) k1, fun y hy => ?_, h2⟩
    rcases List.mem_cons.1 hy with rfl | hy
    · exact k2
    · exact e2 y hy
theorem vflat_drop (xs : List Verdict) (i : Nat) : (xs.drop i).flatMap Verdict.cells = (xs.flatMap Verdict.cells).drop (i * 4) := by
  induction xs generalizing i with
  | nil => simp
  | cons x xs ih =>
    cases i with
    | zero => simp
    | succ i =>
      have h4 : x.cells.length = 4 := rfl
      rw [List.drop_succ_cons, ih, List.flatMap_cons, List.drop_append, h4, show (i + 1) * 4 - 4 = i * 4 by omega, show x.cells.drop ((i + 1) * 4) = [] from List.drop_of_length_le (by rw [h4]; omega), List.nil_append]
theorem vflat_take (xs : List Verdict) (i : Nat) : (xs.take i).flatMap Verdict.cells = (xs.flatMap Verdict.cells).take (i * 4) := by
  induction xs generalizing i with
  | nil => simp
  | cons x xs ih =>
    cases i with
    | zero => simp
    | succ i =>
      have h4 : x.cells.length = 4 := rfl
      rw [List.take_succ_cons, List.flatMap_cons, ih, List.flatMap_cons, List.take_append, h4, show (i + 1) * 4 - 4 = i * 4 by omega, show x.cells.take ((i + 1) * 4) = x.cells from List.take_of_length_le (by rw [h4]; omega)]
def zVer : List Value := [.int .i64 0, .int .i64 0, .bool false, .int .i64 0]

set_option maxHeartbeats 2000000 in
set_option maxRecDepth 20000 in
theorem slices_Delete_v (v : Value) (xs : List Verdict) (i : Nat) (base : Nat) (w : World) (h : Bld verdictO w base 30 v xs []) (hi : i < xs.length) (hl : xs.length ≤ 1048576) :
    Calls Try.prog 21 #[v, .int .i64 i, .int .i64 ((i : Int) + 1)] w fun e w2 => ∃ v2, e = .returned v2 ∧ Bld verdictO w2 base 30 v2 (xs.eraseIdx i) [] ∧ ∀ w0 : World, w0.heap.size ≤ base → Ext w0 w → Ext w0 w2 := by
  obtain ⟨g, cap, cur, rfl, hb, hgl, hh, hnc, hcm, hcs, hown, _, _, _⟩ := h.parts (by omega)
  have h4 : verdictO.n = 4 := rfl
  rw [h4] at hcs hown
  obtain ⟨hfl, hok, _⟩ := vers_flat hown
  obtain ⟨news, hnews⟩ : ∃ news, news = (xs.drop (i + 1)).flatMap Verdict.cells := ⟨_, rfl⟩
  have hlen : news.length = (xs.length - (i + 1)) * 4 := by rw [hnews, vflat_len, List.length_drop]
  have hcl : cur.toList.length = cap * 4 := by rw [Array.length_toList, hcs]
  have hget : ∀ (W : World), W.heap[g]? = w.heap[g]? → ∀ t u, news[t]? = some u → W.cell? ⟨g, (i + 1) * 4 + t, none⟩ = some u := fun W hW t u hu => by
    have h1 := (List.getElem?_eq_some_iff.1 hu).1
    rw [cell_of_row W g _ cur _ (0, 0) (hW.trans hh)]
    rw [hnews, vflat_drop, List.getElem?_drop, ← hfl, List.getElem?_take, if_pos (by rw [hlen] at h1; omega)] at hu
    rw [← hu]; simp
  have hone : ∀ u ∈ news, u.oneCell' = true := by rw [hnews]; exact vers_one _
  obtain ⟨i0, z0, hi0, hz0, hsz0, _, _⟩ := elemVer.info
  obtain ⟨A, hA, hsrc⟩ : ∃ A : Addr, (if cap = i + 1 then (some (⟨g, 0, none⟩ : Addr)) else some ⟨g, (i + 1) * 4, none⟩) = some A ∧ Hid (∀ t u, news[t]? = some u → w.drew.cell? (A.add t) = some u) := by
    by_cases hc : cap = i + 1
    · refine ⟨⟨g, 0, none⟩, by simp [hc], fun t u hu => ?_⟩
      have h0 : news = [] := List.eq_nil_of_length_eq_zero (by rw [hlen]; omega)
      rw [h0] at hu; simp at hu
    · exact ⟨⟨g, (i + 1) * 4, none⟩, by simp [hc], fun t u hu => by rw [add_eq]; exact hget _ rfl t u hu⟩
  have hfz : ∀ (W : World), W.heap[g]? = w.heap[g]? → ∀ k, W.frozen? ⟨g, k, none⟩ = false := fun W hW k => frozen_of_row W g k cur _ (hW.trans hh)
  have s3 : Hid (∀ t, t < news.length → (w.drew.cell? ⟨g, 0 + i * 4 + t, none⟩).isSome = true ∧ w.drew.frozen? ⟨g, 0 + i * 4 + t, none⟩ = false) := by
    intro t ht
    refine ⟨?_, hfz _ rfl _⟩
    rw [cell_of_row w.drew g _ cur _ (0, 0) hh]
    rw [hlen] at ht
    rw [Array.getElem?_eq_getElem (by omega)]; rfl
  obtain ⟨W1, hW1⟩ : ∃ W1, W1 = w.drew.setCells g (0 + i * 4) news := ⟨_, rfl⟩
  obtain ⟨n1, hn1⟩ : ∃ n1, n1 = i + (xs.length - (i + 1)) := ⟨_, rfl⟩
  have hn2 : n1 + 1 = xs.length := by omega
  have hB1 : W1.heap[g]? = some (.cells (cur.toList.take (i * 4) ++ (news ++ cur.toList.drop (i * 4 + news.length))).toArray 30 (0, 0)) := by
    rw [hW1]
    have := heap_setCells (g := g) (e := 30) news (0 + i * 4) w.drew cur hh (by rw [hlen]; omega)
    rwa [Nat.zero_add] at this ⊢
  have hcl2 : ∀ ty, (Builtin.clear_ #[26] ty #[.slice (some ⟨g, n1 * 4, none⟩) (xs.length - n1) (cap - n1)]).run Try.prog W1 = .ok (.tuple #[]) (W1.setCells g (n1 * 4) (List.replicate (xs.length - n1) zVer).flatten) := fun ty => by
    refine run_clear_many W1 _ 30 ty (.agg zVer.toArray) zVer Try.underlying26 (fun w => by kernel_rfl) rfl (by simp [zVer, Value.oneCell']) g (n1 * 4) (xs.length - n1) _ (by omega) (fun j hj => ?_) (fun j hj => frozen_of_row W1 g _ _ _ hB1)
    have h3 : zVer.length = 4 := rfl
    rw [h3] at hj
    rw [cell_of_row W1 g _ _ _ (0, 0) hB1, List.getElem?_toArray, List.getElem?_eq_getElem (by simp; omega)]
    rfl
  have HW := hid hW1
  have HN := hid hn1
  have HB1 := hid hB1
  have u1 : ¬ cap = n1 := by omega
  have u2 : n1 ≤ cap := by omega
  have u3 : (n1 : Int) ≤ (xs.length : Int) := by omega
  have u4 : n1 ≤ xs.length := by omega
  have HN2 := hid hn2
  clear hW1 hn1 hn2 hB1
  have mixed : Try.prog.follows .mixedOrders = true := by kernel_rfl
  have hic : i ≤ cap := by omega
  have hjc : i + 1 ≤ cap := by omega
  have hp0 : (0 : Int) ≤ (i : Int) + 1 := by omega
  have hp1 : (i : Int) + 1 ≤ (xs.length : Int) := by omega
  have HH := hid hh
  have HFL := hid hfl
  have HNW := hid hnews
  clear hh hfl hnews hget hfz hcl
  go_enter Try.func21, Try.ntmps21
  go_wp2_with fail
  go_region_law_o (refine step_append_room rfl (.tmp 22) (.tmp 25) 26 rfl 30 i0 4 Try.underlying26 hi0 hsz0 g 0 i cap (by simp [Act.eval, Act.put]) A (xs.length - (i + 1)) (cap - (i + 1)) news (by simp [Act.eval, Act.put]) hlen hsrc.out hone (by omega) s3.out ?_; rw [← HW.out, ← HN.out])
  clear hA hsrc s3
  go_wp2
  go_ret
  have hn1 := HN.out
  have hB1 := HB1.out
  have h3 : zVer.length = 4 := rfl
  have hz : (List.replicate (xs.length - n1) zVer).flatten.length = (xs.length - n1) * 4 := by simp [h3]
  have hsA : (cur.toList.take (i * 4) ++ (news ++ cur.toList.drop (i * 4 + news.length))).length = cap * 4 := by simp; omega
  have hB2 := heap_setCells (g := g) (e := 30) (List.replicate (xs.length - n1) zVer).flatten (n1 * 4) W1 _ hB1 (by rw [hz]; simp only [List.size_toArray, hsA]; omega)
  have htk : (cur.toList.take (i * 4) ++ (news ++ cur.toList.drop (i * 4 + news.length))).take (n1 * 4) = (xs.eraseIdx i).flatMap Verdict.cells := by
    have e1 : cur.toList.take (i * 4) = (xs.take i).flatMap Verdict.cells := by
      rw [vflat_take, ← HFL.out, List.take_take, Nat.min_eq_left (by omega)]
    have l1 : (cur.toList.take (i * 4)).length = i * 4 := by simp; omega
    rw [← List.append_assoc, List.take_append_of_le_length (by rw [List.length_append, l1, hlen]; omega), List.take_of_length_le (by rw [List.length_append, l1, hlen]; omega), e1, HNW.out, ← List.flatMap_append, List.eraseIdx_eq_take_drop_succ]
  refine ⟨_, rfl, Bld.of_parts (by rw [List.length_eraseIdx]; simp only [hi, if_true]; omega) hb hB2 (by rw [List.length_eraseIdx]; simp only [hi, if_true]; omega) hcm ?_ ?_ (by simp) List.nodup_nil (fun _ h9 => by cases h9), fun w0 h0 hx => ?_⟩
  · rw [h4]; simp only [List.size_toArray, List.length_append, List.length_take, List.length_drop, hz, hsA]; omega
  · have hle : (xs.eraseIdx i).length = n1 := by rw [List.length_eraseIdx]; simp only [hi, if_true]; omega
    rw [h4, hle, List.toList_toArray, List.take_append_of_le_length (by simp only [List.length_take, hsA, List.toList_toArray]; omega), List.toList_toArray, List.take_take, Nat.min_self, htk]
    exact vers_own _ (fun y hy => hok y (List.mem_of_mem_eraseIdx hy)) _
  · rw [HW.out]
    exact Ext.setCells (Nat.le_trans h0 hb) _ _ (Ext.setCells (Nat.le_trans h0 hb) _ _ hx.drew)
end Go.Proofs.Ytblggajfdhjmjaa
