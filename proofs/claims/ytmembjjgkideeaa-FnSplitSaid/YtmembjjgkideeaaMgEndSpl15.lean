/-
  WALKS: slices.SortFunc and slices.SortStableFunc at verdicts, over a row that the call made.
-/
import Derived.Test.YtmembjjgkideeaaMgEndSpl6
import Derived.Test.YtmembjjgkideeaaMgEndSpl7
import Derived.Test.YtmembjjgkideeaaMgEndSpl10
import Derived.Test.YtmembjjgkideeaaMgEndSpl9
import Derived.Test.YtmembjjgkideeaaMgEndSpl14

namespace Go.Proofs.Ytmembjjgkideeaa
open Go.RowKit

theorem vers_cells {w : World} : ∀ {xs : List Verdict} {cs : List Value} {F : List Nat}, OwnCells verdictO w cs xs F → cs = xs.flatMap Verdict.cells ∧ F = [] ∧ ∀ x ∈ xs, x.ok
  | [], _, _, h => ⟨h.1, h.2, fun _ h => by cases h⟩
  | x :: xs, _, _, ⟨c, d, F1, F2, h1, h2, h3, h4⟩ => by
    obtain ⟨k1, k2, k3⟩ := vers_cells h4
    obtain ⟨⟨e1, e2⟩, e3⟩ := h3
    refine ⟨?_, ?_, fun y hy => ?_⟩
    · rw [h1, k1, e1, List.flatMap_cons]
    · rw [h2, e3, k2]; rfl
    · rcases List.mem_cons.1 hy with rfl | hy
      · exact e2
      · exact k3 y hy
/-- a row of verdicts, and what a sort of it leaves -/
theorem Bld.rowV {w : World} {base : Nat} {v : Value} {xs : List Verdict} (hb : Bld verdictO w base 32 v xs []) :
    (v = .slice none 0 0 ∧ xs = []) ∨ ∃ gb cap, v = .slice (some ⟨gb, 0, none⟩) xs.length cap ∧ gb < w.heap.size ∧ Go.Sort.HoldsK Verdict.cells 4 w gb 0 xs.toArray ∧
      ∀ (ys : List Verdict) (q : Nat) (os : Array Obj), ys.Perm xs → Bld verdictO (Go.Proofs.sortWorldK Verdict.cells 4 w gb 0 q ys.toArray os) base 32 v ys [] ∧
        (∀ w0 : World, w0.heap.size ≤ base → Ext w0 w → Ext w0 (Go.Proofs.sortWorldK Verdict.cells 4 w gb 0 q ys.toArray os)) ∧ ∀ b, b < w.heap.size → b ≠ gb → (Go.Proofs.sortWorldK Verdict.cells 4 w gb 0 q ys.toArray os).heap[b]? = w.heap[b]? := by
  obtain ⟨cs, hown, hc, hne, hnd, hbs⟩ := hb
  have hown0 := hown
  obtain ⟨hce, _, hok⟩ := vers_cells hc
  obtain ⟨hcl, ⟨rfl, hn0⟩ | ⟨gb, cap, cur, rfl, hbg, hh, hnc, hcm, hcs, htk⟩⟩ := hown
  · exact .inl ⟨rfl, List.eq_nil_of_length_eq_zero hn0⟩
  · have hk : ∀ x : Verdict, x.cells.length = 4 := fun _ => rfl
    have hflat := flatK_flat Verdict.cells 4 (by decide) hk xs.toArray
    have hH : Go.Sort.HoldsK Verdict.cells 4 w gb 0 xs.toArray := by
      unfold Go.Sort.HoldsK
      rw [hflat, show xs.toArray.toList.flatMap Verdict.cells = cs from hce.symm]
      intro j hj
      rw [List.size_toArray] at hj
      refine ⟨?_, frozen_of_row w gb _ cur _ hh⟩
      rw [Nat.zero_add, cell_of_row w gb j cur _ (0, 0) hh]
      have hcj : cs[j]? = some cs[j] := List.getElem?_eq_getElem hj
      rw [getElem!_pos cs.toArray j (by rw [List.size_toArray]; exact hj), List.getElem_toArray]
      show cur[j]? = some cs[j]
      rw [← hcj, ← htk, List.getElem?_take, if_pos (by rw [← hcl]; exact hj), Array.getElem?_toList]
    refine .inr ⟨gb, cap, rfl, block_lt hh, hH, fun ys q os hp => ?_⟩
    have hyl : ys.length = xs.length := hp.length_eq
    have hflat2 := flatK_flat Verdict.cells 4 (by decide) hk ys.toArray
    have hl1 : (ys.flatMap Verdict.cells).length = cs.length := by rw [flatMap_len hk, hyl, hce, flatMap_len hk]
    have hput : Go.Sort.putRowK Verdict.cells 4 (Go.Sort.ahead w q) gb 0 ys.toArray = (w.drewN q).setCells gb 0 (ys.flatMap Verdict.cells) := by
      unfold Go.Sort.putRowK
      rw [hflat2]
      have := Go.Lib.putRow_eq_setCells id w gb 0 (Go.Sort.flatK Verdict.cells 4 xs.toArray) (ys.flatMap Verdict.cells) q hH (by rw [Go.Sort.size_flatK, hl1, hcl, List.size_toArray]; rfl)
      rw [List.map_id] at this
      exact this
    have hW : Go.Proofs.sortWorldK Verdict.cells 4 w gb 0 q ys.toArray os = sortedW w gb q (ys.flatMap Verdict.cells) os := by
      unfold Go.Proofs.sortWorldK sortedW
      rw [hput]
    rw [hW]
    refine ⟨⟨ys.flatMap Verdict.cells, ?_, vers_own ys (fun y hy => hok y (hp.mem_iff.1 hy)) _, hne, hnd, hbs⟩, fun w0 h0 h => sortedW_ext (Nat.le_trans h0 hbg) h _ _ _, fun b hb hne => sortedW_keep w gb q _ os hb hne⟩
    rw [hyl]
    exact ownsRow_set hown0 hl1 q os
theorem perm_of_inV {α : Type} [Inhabited α] {d d' : Array α} (h : Go.Sort.PermIn 0 d.size d d') : d'.size = d.size ∧ d'.toList.Perm d.toList := by
  have hs : d'.size = d.size := h.1
  refine ⟨hs, ?_⟩
  have h3 := h.2.2
  have e1 : d'.extract 0 d.size = d' := by rw [← hs]; exact Array.extract_size
  have e2 : d.extract 0 d.size = d := Array.extract_size
  rw [e1, e2] at h3
  exact h3
theorem ver_one1 (x : Verdict) : ∀ v ∈ x.cells, v.oneCell' = true := fun v hv => by
  simp only [Verdict.cells, List.mem_cons, List.not_mem_nil, or_false] at hv
  rcases hv with rfl | rfl | rfl | rfl <;> rfl

theorem sort_vers (v : Value) (xs : List Verdict) (w : World) (base : Nat) (hb : Bld verdictO w base 32 v xs []) (hl : xs.length ≤ 1048576) :
    Calls Try.prog 26 #[v, .func (.func 27) #[] #[]] w fun e w2 => e = .returned (.tuple #[]) ∧ Bld verdictO w2 base 32 v (sortS xs) [] ∧
      (∀ w0 : World, w0.heap.size ≤ base → Ext w0 w → Ext w0 w2) ∧ ∀ b, b < w.heap.size → v.ownBlock ≠ some b → w2.heap[b]? = w.heap[b]? := by
  have hb0 := hb
  rcases hb.rowV with ⟨rfl, rfl⟩ | ⟨gb, cap, rfl, hlt, hH, hS⟩
  · refine Calls.mono (AnyF.slices_SortFunc_none lShSortV none 0 _ w) ?_
    rintro e w2 ⟨rfl, rfl⟩
    exact ⟨rfl, hb0, fun _ _ h => h, fun _ _ _ => rfl⟩
  · have hC : CmpLays Try.prog 27 #[] Verdict.cells 4 cmpV gb 0 xs.toArray.size w := fun m os dk _ x y => impl_CompareVerdicts_g x y _
    have eg : ∀ (args : Array Value) (w : World), (callFunc 27 args).run Try.prog w = .ok (.enter 27 args) w := fun _ _ => by kernel_rfl
    have hcon := AnyQ.slices_SortFunc lShSortV 4 (fun _ => by kernel_rfl) (fun _ => by kernel_rfl) Verdict.cells (fun _ => rfl) ver_one1 cmpV swo_cmpV 27 #[] gb 0 cap xs.toArray w eg hC hH hlt (by rw [List.size_toArray]; omega)
    rw [List.size_toArray] at hcon
    refine Calls.mono hcon ?_
    rintro e w2 ⟨rfl, d', q, os, hp, hs, rfl⟩
    have hp2 : Go.Sort.PermIn 0 xs.toArray.size xs.toArray d' := by rw [List.size_toArray]; exact hp
    obtain ⟨hds0, hperm⟩ := perm_of_inV hp2
    have hds : d'.size = xs.length := hds0.trans (List.size_toArray)
    have hsort : SortedV d'.toList := by
      unfold SortedV
      rw [List.pairwise_iff_getElem]
      intro i j hi hj hij
      rw [Array.length_toList] at hi hj
      have := hs i j (Nat.zero_le _) hij (by omega)
      rw [getElem!_pos _ _ (by omega), getElem!_pos _ _ (by omega), ltOf_cmpV_no] at this
      simpa using this
    have hd : d'.toList = sortS xs := sortedV_eq hsort (sortS_sorted xs) (hperm.trans (sortS_perm xs).symm)
    have hd2 : d' = (sortS xs).toArray := by rw [← hd]
    subst hd2
    obtain ⟨s1, s2, s3⟩ := hS (sortS xs) q os (sortS_perm xs)
    exact ⟨rfl, s1, s2, fun b hb hne => s3 b hb (fun e => hne (by rw [e]; rfl))⟩

set_option maxHeartbeats 400000 in
theorem impl_late (x y : Verdict) (w : World) :
    Calls Try.prog 22 #[x.val, y.val] w fun e w2 => e = .returned (.int .i64 (cmpI y.time x.time)) ∧ Grn w w2 := by
  unfold Verdict.val
  go_enter Try.func22, Try.ntmps22
  go_wp2_with (go_at_call 23; refine (cmp_Compare _ _ _).mono ?_; rintro e w2 ⟨rfl, rfl⟩)
  go_ret
  exact ⟨ret_int rfl, by repeat (first | exact Grn.refl _ | refine Grn.drew ?_ | refine Grn.alloc ?_ _)⟩
theorem ltOf_late (x y : Verdict) : ltOf (fun a b : Verdict => cmpI b.time a.time) x y = decide (lateF x < lateF y) := by
  unfold ltOf lateF
  rw [Bool.eq_iff_iff, decide_eq_true_eq, decide_eq_true_eq, cmpI_lt]
  omega
theorem ins_late (v : Value) (xs : List Verdict) (w : World) (base : Nat) (hb : Bld verdictO w base 32 v xs []) (hl : xs.length ≤ 1048576) :
    Calls Try.prog 67 #[v, .int .i64 0, .int .i64 xs.length, .func (.func 22) #[] #[]] w fun e w2 => e = .returned (.tuple #[]) ∧ Bld verdictO w2 base 32 v (sortK lateF xs) [] ∧
      (∀ w0 : World, w0.heap.size ≤ base → Ext w0 w → Ext w0 w2) ∧ ∀ b, b < w.heap.size → v.ownBlock ≠ some b → w2.heap[b]? = w.heap[b]? := by
  have hb0 := hb
  rcases hb.rowV with ⟨rfl, rfl⟩ | ⟨gb, cap, rfl, hlt, hH, hS⟩
  · refine Calls.mono (AnyF.insertionSortCmpFunc_none { lShSortV with } none 0 _ w) ?_
    rintro e w2 ⟨rfl, rfl⟩
    exact ⟨rfl, hb0, fun _ _ h => h, fun _ _ _ => rfl⟩
  · have hC : CmpLays Try.prog 22 #[] Verdict.cells 4 (fun a b : Verdict => cmpI b.time a.time) gb 0 xs.toArray.size w := fun m os dk _ x y => impl_late x y _
    have eg : ∀ (args : Array Value) (w : World), (callFunc 22 args).run Try.prog w = .ok (.enter 22 args) w := fun _ _ => by kernel_rfl
    have hcon := AnyQ.insertionSortCmpFunc { lShSortV with } 4 (fun _ => by kernel_rfl) (fun _ => by kernel_rfl) Verdict.cells (fun _ => rfl) ver_one1 (fun a b : Verdict => cmpI b.time a.time) 22 #[] gb 0 cap 0 xs.length xs.toArray w eg hC hH hlt (Nat.zero_le _) (by rw [List.size_toArray]; exact Nat.le_refl _) (by rw [List.size_toArray]; omega)
    rw [List.size_toArray] at hcon
    refine Calls.mono hcon ?_
    rintro e w2 ⟨rfl, q, os, rfl⟩
    rw [insertionSort_key lateF _ ltOf_late xs]
    obtain ⟨s1, s2, s3⟩ := hS (sortK lateF xs) q os (sortK_perm lateF xs)
    exact ⟨rfl, s1, s2, fun b hb hne => s3 b hb (fun e => hne (by rw [e]; rfl))⟩

set_option maxHeartbeats 400000 in
theorem stable_late (v : Value) (xs : List Verdict) (w : World) (base : Nat) (hb : Bld verdictO w base 32 v xs []) (hl : xs.length ≤ 8) :
    Calls Try.prog 43 #[v, .int .i64 xs.length, .func (.func 22) #[] #[]] w fun e w2 => e = .returned (.tuple #[]) ∧ Bld verdictO w2 base 32 v (sortK lateF xs) [] ∧
      (∀ w0 : World, w0.heap.size ≤ base → Ext w0 w → Ext w0 w2) ∧ ∀ b, b < w.heap.size → v.ownBlock ≠ some b → w2.heap[b]? = w.heap[b]? := by
  have hi := ins_late v xs w base hb (by omega)
  obtain ⟨A, cap, rfl, hm⟩ := hb.sl.form
  go_enter Try.func43, Try.ntmps43
  have h20 : (xs.length : Int) < 20 := by omega
  have HI := hid hi
  clear hi hb hl
  go_wp2
  refine wp_loop_rounds 1 ?_
  rw [rounds_succ]
  go_wp2_with (go_at_call 67; refine (HI.out).mono ?_; rintro e w2 ⟨rfl, hB, hx, hk⟩)
  refine wp_loop_rounds 1 ?_
  rw [rounds_succ]
  go_wp2
  go_end0
  exact ⟨rfl, hB, hx, hk⟩

theorem slices_SortStable_late (v : Value) (xs : List Verdict) (w : World) (base : Nat) (hb : Bld verdictO w base 32 v xs []) (hl : xs.length ≤ 8) :
    Calls Try.prog 21 #[v, .func (.func 22) #[] #[]] w fun e w2 => e = .returned (.tuple #[]) ∧ Bld verdictO w2 base 32 v (sortK lateF xs) [] ∧
      (∀ w0 : World, w0.heap.size ≤ base → Ext w0 w → Ext w0 w2) ∧ ∀ b, b < w.heap.size → v.ownBlock ≠ some b → w2.heap[b]? = w.heap[b]? := by
  have HI := hid (stable_late v xs w base hb hl)
  obtain ⟨A, cap, rfl, hm⟩ := hb.sl.form
  clear hb hl
  go_enter Try.func21, Try.ntmps21
  go_wp2_with fail
  refine (HI.out).mono ?_
  rintro e w2 ⟨rfl, hB, hx, hk⟩
  go_wp2
  go_end0
  exact ⟨rfl, hB, hx, hk⟩
end Go.Proofs.Ytmembjjgkideeaa
