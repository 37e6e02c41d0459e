/-
  WALK: slices.SortFunc at verdicts by CompareVerdicts, by rows (the shelf's contract laid).
-/
import Derived.Test.YtmembjjgkideeaaMgEndSpl9
import Derived.Test.YtmembjjgkideeaaMgEndSpl3
import Derived.Lib.RowBridge

namespace Go.Proofs.Ytmembjjgkideeaa
open Go.RowKit

/-- draws and new blocks, nothing else -/
def Gr (w w2 : World) : Prop := ∃ (q : Nat) (os : Array Obj), w2 = Go.Sort.grow (w.drewN q) os
theorem Gr.refl (w : World) : Gr w w := ⟨0, #[], by rw [Go.Sort.grow_empty]; rfl⟩
theorem Gr.drew {w w2 : World} (h : Gr w w2) : Gr w w2.drew := by obtain ⟨q, os, rfl⟩ := h; exact ⟨q + 1, os, rfl⟩
theorem Gr.alloc {w w2 : World} (h : Gr w w2) (o : Obj) : Gr w (w2.alloc o) := by obtain ⟨q, os, rfl⟩ := h; exact ⟨q, _, by rw [Go.Sort.alloc_eq_grow, Go.Sort.grow_grow]⟩

set_option maxHeartbeats 400000 in
set_option maxRecDepth 20000 in
theorem impl_CompareVerdicts_g (x y : Verdict) (w : World) :
    Calls Try.prog 27 #[x.val, y.val] w fun e w2 => e = .returned (.int .i64 (cmpV x y)) ∧ Gr w w2 := by
  obtain ⟨a, b, s, t⟩ := x
  obtain ⟨a', b', s', t'⟩ := y
  unfold Verdict.val
  go_enter Try.func27, Try.ntmps27
  go_wp2
  refine wp_region_still_tail 20 (by kernel_rfl) (by kernel_rfl) ?_
  simp only [List.take_succ_cons, List.take_zero, List.drop_succ_cons, List.drop_zero]
  change wpStill _ _ (World.drew _) _ _ _
  repeat (first | still_step | still_call (cmp_Compare _ _ _) | still_call (impl_compareSame _ _ _))
  refine wpStill_nil ?_
  change wpList _ _ _ _ _ (World.drew _)
  go_wp2_with fail
  refine (cmp_Or _ [cmpI a a', cmpI b b', cmpI t t', cmpB s s'] _ ?_).mono ?_
  · exact (Sl.new_ints _ [cmpI a a', cmpI b b', cmpI t t', cmpB s s'] _ _ _ (by simp) (by simp) (by simp [cmpI_64, cmpB_64]) (by simp [maxLen])).mono (Ext.refl _).drew
  rintro e w2 ⟨rfl, rfl⟩
  go_wp2
  go_ret
  exact ⟨ret_int rfl, by repeat (first | exact Gr.refl _ | refine Gr.drew ?_ | refine Gr.alloc ?_ _)⟩

instance : Inhabited Verdict := ⟨⟨0, 0, false, 0⟩⟩
theorem ltOf_cmpV (x y : Verdict) : ltOf cmpV x y = true ↔ vlt x y := by
  unfold ltOf
  rw [decide_eq_true_eq]; exact cmpV_lt
theorem ltOf_cmpV_no (x y : Verdict) : ltOf cmpV x y = false ↔ ¬ vlt x y := by
  rw [← ltOf_cmpV]; simp
theorem swo_cmpV : Go.Sort.SWO (ltOf cmpV) where
  irrefl x := by rw [ltOf_cmpV_no]; exact vlt_irr x
  trans x y z h1 h2 := by rw [ltOf_cmpV] at *; exact vlt_trans h1 h2
  ntrans x y z h1 h2 := by
    rw [ltOf_cmpV_no] at *
    intro h
    rcases vlt_tri x y with e | e | e
    · exact h1 e
    · exact h2 (e ▸ h)
    · rcases vlt_tri y z with k | k | k
      · exact h2 k
      · exact h1 (k ▸ h)
      · exact vlt_irr _ (vlt_trans h (vlt_trans k e))
theorem flatK_q (xs : List Verdict) : Go.Sort.flatK Verdict.cells 4 xs.toArray = (flatQ (xs.map Verdict.q)).toArray := by
  have hl : (flatQ (xs.map Verdict.q)).length = xs.length * 4 := by rw [flatQ_len, List.length_map]
  apply Go.Sort.ext_get!
  · rw [Go.Sort.size_flatK, List.size_toArray, List.size_toArray, hl]
  · intro t ht
    rw [Go.Sort.size_flatK, List.size_toArray] at ht
    rw [Go.Sort.get_flatK _ _ _ _ (by rw [List.size_toArray]; exact ht), getElem!_pos (flatQ (xs.map Verdict.q)).toArray t (by rw [List.size_toArray, hl]; exact ht)]
    have hi : t / 4 < xs.length := by omega
    have e1 : xs.toArray[t / 4]! = xs[t / 4] := by rw [getElem!_pos _ _ (by simpa using hi)]; simp
    rw [e1]
    have h4 := flatQ_at (xs.map Verdict.q) (t / 4) (by rw [List.length_map]; exact hi)
    rw [List.getElem_map] at h4
    have e2 : (flatQ (xs.map Verdict.q)).toArray[t]'(by rw [List.size_toArray, hl]; exact ht) = (flatQ (xs.map Verdict.q))[t]'(by rw [hl]; exact ht) := by simp
    rw [e2]
    have key : ∀ j, t % 4 = j → t = t / 4 * 4 + j := fun j hj => by omega
    obtain ⟨k0, k1, k2, k3⟩ := h4
    have hm : t % 4 = 0 ∨ t % 4 = 1 ∨ t % 4 = 2 ∨ t % 4 = 3 := by omega
    have fin : ∀ u, (flatQ (xs.map Verdict.q))[t]? = some u → (flatQ (xs.map Verdict.q))[t]'(by rw [hl]; exact ht) = u := fun u hu => by
      rw [List.getElem?_eq_getElem (by rw [hl]; exact ht)] at hu; exact Option.some.inj hu
    rcases hm with h | h | h | h
    · rw [fin _ (by rw [key 0 h]; simpa using k0), h]; rfl
    · rw [fin _ (by rw [key 1 h]; exact k1), h]; rfl
    · rw [fin _ (by rw [key 2 h]; exact k2), h]; rfl
    · rw [fin _ (by rw [key 3 h]; exact k3), h]; rfl
theorem grow_ext (w : World) (q : Nat) (os : Array Obj) : Ext w (Go.Sort.grow (w.drewN q) os) := by
  refine ⟨rfl, rfl, rfl, ?_, fun k hk => ?_⟩
  · show w.heap.size ≤ (w.heap ++ os).size
    rw [Array.size_append]; omega
  · show (w.heap ++ os)[k]? = w.heap[k]?
    rw [Array.getElem?_append_left hk]
theorem grow_ext2 (w : World) (os : Array Obj) : Ext w (Go.Sort.grow w os) := grow_ext w 0 os

theorem slices_SortFunc_q (g n : Nat) (xs : List Verdict) (row : List Q4) (w : World) (hr : RowQ w g 32 row) (hn : n ≤ row.length) (hl : n ≤ 1048576) (hx : row.take n = xs.map Verdict.q) :
    Calls Try.prog 26 #[.slice (some ⟨g, 0, none⟩) n row.length, .func (.func 27) #[] #[]] w fun e w2 => ∃ row2, e = .returned (.tuple #[]) ∧ RowQ w2 g 32 row2 ∧ row2.length = row.length ∧
      row2.take n = (sortS xs).map Verdict.q ∧ Kp g w w2 ∧ ∀ w0 : World, w0.heap.size ≤ g → Ext w0 w → Ext w0 w2 := by
  have hxl : xs.length = n := by
    have := congrArg List.length hx
    rw [List.length_take, List.length_map] at this; omega
  have hH : Go.Sort.HoldsK Verdict.cells 4 w g 0 xs.toArray := by
    unfold Go.Sort.HoldsK
    rw [flatK_q, ← hx]
    intro j hj
    rw [List.size_toArray] at hj
    have hj2 : j < (flatQ row).length := by rw [flatQ_take, List.length_take] at hj; omega
    refine ⟨?_, hr.frozen _⟩
    rw [Nat.zero_add, cell_of_row w g j _ _ (0, 0) hr, List.getElem?_toArray, List.getElem?_eq_getElem hj2, getElem!_pos (flatQ (row.take n)).toArray j (by rw [List.size_toArray]; exact hj)]
    simp only [List.getElem_toArray, flatQ_take, List.getElem_take]; rfl
  have hC : CmpLays Try.prog 27 #[] Verdict.cells 4 cmpV g 0 xs.toArray.size w := fun m os dk _ x y => impl_CompareVerdicts_g x y _
  have eg : ∀ (args : Array Value) (w : World), (callFunc 27 args).run Try.prog w = .ok (.enter 27 args) w := fun _ _ => by kernel_rfl
  have hcon := AnyQ.slices_SortFunc lShSortV 4 (fun _ => by kernel_rfl) (fun _ => by kernel_rfl) Verdict.cells (fun _ => rfl) (fun x v hv => by
    simp only [Verdict.cells, List.mem_cons, List.not_mem_nil, or_false] at hv
    rcases hv with rfl | rfl | rfl | rfl <;> rfl) cmpV swo_cmpV 27 #[] g 0 row.length xs.toArray w eg hC hH hr.lt (by rw [List.size_toArray]; omega)
  rw [List.size_toArray, hxl] at hcon
  refine Calls.mono hcon ?_
  rintro e w2 ⟨rfl, d', q, os, hp, hs, rfl⟩
  have hds : d'.size = n := by have := hp.1; simpa [hxl] using this
  have hdl : d'.toList.length = n := by rw [Array.length_toList]; exact hds
  have hperm : d'.toList.Perm xs := by
    have := hp.2.2
    have e1 : d'.extract 0 n = d' := by rw [← hds]; exact Array.extract_size
    have e2 : xs.toArray.extract 0 n = xs.toArray := by rw [← hxl]; simp
    rw [e1, e2] at this
    simpa using this
  have hsort : SortedV d'.toList := by
    unfold SortedV
    rw [List.pairwise_iff_getElem]
    intro i j hi hj hij
    have := hs i j (Nat.zero_le _) hij (by omega)
    rw [getElem!_pos _ _ (by omega), getElem!_pos _ _ (by omega), ltOf_cmpV_no] at this
    simpa using this
  have hd : d'.toList = sortS xs := sortedV_eq hsort (sortS_sorted xs) (hperm.trans (sortS_perm xs).symm)
  have hd2 : d' = (sortS xs).toArray := by rw [← hd]
  subst hd2
  have hsl : (sortS xs).length = n := by rw [sortS_len, hxl]
  have hput : Go.Sort.putRowK Verdict.cells 4 (Go.Sort.ahead w q) g 0 (sortS xs).toArray = (w.drewN q).setCells g 0 (flatQ ((sortS xs).map Verdict.q)) := by
    unfold Go.Sort.putRowK
    rw [flatK_q]
    have := Go.Lib.putRow_eq_setCells id w g 0 (Go.Sort.flatK Verdict.cells 4 xs.toArray) (flatQ ((sortS xs).map Verdict.q)) q hH (by rw [Go.Sort.size_flatK, flatQ_len, List.length_map, List.size_toArray, hsl, hxl])
    rw [this, List.map_id]
  have hR0 : RowQ (w.drewN q) g 32 row := hr
  have hR1 := hR0.setCells (i := 0) ((sortS xs).map Verdict.q) (by rw [List.length_map]; omega)
  rw [Nat.zero_mul] at hR1
  unfold sortWorldK
  rw [hput]
  refine ⟨_, rfl, hR1.ext (grow_ext2 _ os), ?_, ?_, (show Kp g w (w.drewN q) from ⟨Nat.le_refl _, fun _ _ _ => rfl⟩).trans ((Kp.setCells g 0 _ _).trans (grow_ext2 _ os).kp), fun w0 h0 h => (Ext.setCells h0 _ _ (h.drewN q)).trans (grow_ext2 _ os)⟩
  · simp only [List.length_append, List.length_take, List.length_drop, List.length_map]; omega
  · rw [List.take_zero, List.nil_append, ← hsl, ← List.length_map (f := Verdict.q), List.take_left]
end Go.Proofs.Ytmembjjgkideeaa
