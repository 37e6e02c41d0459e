/-
  WALKS: clash (the program's): slices.ContainsFunc with a function that captures labels.
-/
import Derived.Test.YtmembjjgkideeaaMgEndSpl16

namespace Go.Proofs.Ytmembjjgkideeaa
open Go.RowKit

set_option maxHeartbeats 400000 in
set_option maxRecDepth 20000 in
theorem impl_clash1 (x : Verdict) (g : Nat) (L : Int → Int) (w : World) (hB : Blk w g 67 (lab L)) (hok : okV x = true) :
    Calls Try.prog 47 #[.agg #[.int .i64 x.a, .int .i64 x.b, .bool x.same, .int .i64 x.time], .pointer (some ⟨g, 0, none⟩)] w fun e w2 => e = .returned (.bool (!x.same && L x.a == L x.b)) ∧ Ext w w2 := by
  obtain ⟨⟨na, ea, hna⟩, nb, eb, hnb⟩ := okV_in hok
  obtain ⟨a, b, sm, t⟩ := x
  dsimp only at ea eb ⊢
  subst ea
  subst eb
  clear hok
  obtain ⟨wb, hwb⟩ : ∃ wb, wb = w.alloc (.cells #[.int .i64 (na : Int), .int .i64 (nb : Int), .bool sm, .int .i64 t] 32) := ⟨_, rfl⟩
  have xb : Ext w wb := by rw [hwb]; exact (Ext.refl w).alloc _
  have bb : Blk wb w.heap.size 32 [.int .i64 (na : Int), .int .i64 (nb : Int), .bool sm, .int .i64 t] := by rw [hwb]; exact Blk.new w 32 #[.int .i64 (na : Int), .int .i64 (nb : Int), .bool sm, .int .i64 t]
  have hBb := hB.ext xb
  have z0 : ∀ z : ExtOf wb, z.1.cell? ⟨w.heap.size, 0, none⟩ = some (.int .i64 (na : Int)) := fun z => (bb.ext z.2).cells.1 0
  have z1 : ∀ z : ExtOf wb, z.1.cell? ⟨w.heap.size, 1, none⟩ = some (.int .i64 (nb : Int)) := fun z => (bb.ext z.2).cells.1 1
  have z2 : ∀ z : ExtOf wb, z.1.cell? ⟨w.heap.size, 2, none⟩ = some (.bool sm) := fun z => (bb.ext z.2).cells.1 2
  have y0 : ∀ z : ExtOf wb, z.1.cell? ⟨g, na, none⟩ = some (.int .i64 (L na)) := fun z => ((hBb.ext z.2).cells.1 na).trans (lab_at L hna)
  have y1 : ∀ z : ExtOf wb, z.1.cell? ⟨g, nb, none⟩ = some (.int .i64 (L nb)) := fun z => ((hBb.ext z.2).cells.1 nb).trans (lab_at L hnb)
  have hna' : (na : Int) < 400 := by omega
  have hnb' : (nb : Int) < 400 := by omega
  clear bb hBb hB
  cases sm with
  | true =>
    go_enter Try.func47, Try.ntmps47
    go_wp2_with fail
    rw [← hwb]
    refine wp_region_ext (by kernel_rfl) (by kernel_rfl) ?_
    repeat (go_big_quiet_step ((fail)))
    refine wpQuiet_nil ?_
    rintro w5 ⟨⟨_, x5⟩, rfl⟩
    go_wp2
    go_ret
    exact ⟨ret_bool rfl, xb.trans x5⟩
  | false =>
    go_enter Try.func47, Try.ntmps47
    go_wp2_with fail
    rw [← hwb]
    refine wp_region_ext (by kernel_rfl) (by kernel_rfl) ?_
    repeat (go_big_quiet_step ((fail)))
    refine wpQuiet_nil ?_
    rintro w5 ⟨⟨_, x5⟩, rfl⟩
    go_wp2
    go_ret
    exact ⟨ret_bool rfl, xb.trans x5⟩

set_option maxHeartbeats 400000 in
set_option maxRecDepth 20000 in
theorem slices_IndexFunc_c (v : Value) (xs : List Verdict) (g : Nat) (L : Int → Int) (w : World) (h : Sl verdictR w v xs) (hB : Blk w g 67 (lab L)) (hok : ∀ x ∈ xs, okV x = true) :
    Calls Try.prog 69 #[v, .func (.func 47) #[] #[.pointer (some ⟨g, 0, none⟩)]] w fun e w2 =>
      e = .returned (.int .i64 (idxF (fun x : Verdict => !x.same && L x.a == L x.b) 0 xs)) ∧ Ext w w2 := by
  obtain ⟨A, cap, rfl, hm⟩ := h.form
  go_enter Try.func69, Try.ntmps69
  go_wp2
  go_loopw [8] (fun i wr => ∃ k : Nat, k ≤ xs.length ∧ i = .int .i64 k ∧ (∀ y ∈ xs.take k, (fun x : Verdict => !x.same && L x.a == L x.b) y = false) ∧ Ext w wr) (fun i _ => xs.length - (intOf i).toNat)
  case atStart => exact ⟨0, Nat.zero_le _, rfl, by simp, Ext.refl _⟩
  case round =>
    obtain ⟨k, hk, rfl, hz, hx⟩ := hrel
    have HZ := hid hz
    clear hz
    by_cases hlt : k < xs.length
    · obtain ⟨b, off, eA, hokk, c0, c1, c2, c3⟩ := (h.mono hx).verdict hlt
      subst eA
      have HB := hid (hB.ext hx)
      have HOK := hid (hok xs[k] (List.getElem_mem hlt))
      obtain ⟨r, hr⟩ : ∃ r, r = (!xs[k].same && L xs[k].a == L xs[k].b) := ⟨_, rfl⟩
      have HC := hid (show Calls Try.prog 47 #[.agg #[.int .i64 xs[k].a, .int .i64 xs[k].b, .bool xs[k].same, .int .i64 xs[k].time], .pointer (some ⟨g, 0, none⟩)] wr fun e w2 => e = .returned (.bool r) ∧ Ext wr w2 from by rw [hr]; exact impl_clash1 xs[k] g L wr HB.out HOK.out)
      have HR := hid hr
      clear hr hokk
      cases r with
      | true =>
        go_wp2_with (go_at_call 47; refine (HC.out).mono ?_; rintro e w2 ⟨rfl, x2⟩)
        go_ret
        exact ⟨ret_int (idxF_at (fun x : Verdict => !x.same && L x.a == L x.b) xs k hlt HZ.out HR.out.symm).symm, hx.trans x2⟩
      | false =>
        go_wp2_with (go_at_call 47; refine (HC.out).mono ?_; rintro e w2 ⟨rfl, x2⟩)
        go_roundw
        case rel => exact ⟨k + 1, by omega, by go_num, take_snoc_all _ xs k hlt HZ.out HR.out.symm, hx.trans x2⟩
        case measure => simp [intOf]; omega
    · go_wp2
      go_ret
      exact ⟨ret_int (idxF_all _ xs k hlt HZ.out).symm, hx⟩
theorem slices_ContainsFunc_c (v : Value) (xs : List Verdict) (g : Nat) (L : Int → Int) (w : World) (h : Sl verdictR w v xs) (hB : Blk w g 67 (lab L)) (hok : ∀ x ∈ xs, okV x = true) :
    Calls Try.prog 46 #[v, .func (.func 47) #[] #[.pointer (some ⟨g, 0, none⟩)]] w fun e w2 =>
      e = .returned (.bool (xs.any fun x : Verdict => !x.same && L x.a == L x.b)) ∧ Ext w w2 := by
  have HI := hid (slices_IndexFunc_c v xs g L w h hB hok)
  have HA := hid (idxF_any (fun x : Verdict => !x.same && L x.a == L x.b) xs 0)
  clear h hB hok
  go_enter Try.func46, Try.ntmps46
  go_wp2_with fail
  refine (HI.out).mono ?_
  rintro e w2 ⟨rfl, x2⟩
  go_wp2
  go_ret
  exact ⟨ret_bool HA.out, x2⟩

set_option maxHeartbeats 400000 in
set_option maxRecDepth 20000 in
theorem impl_clash (v : Value) (xs : List Verdict) (w : World) (h : Sl verdictR w v xs) (hok : ∀ x ∈ xs, okV x = true) :
    Calls Try.prog 24 #[v] w fun e w2 => e = .returned (.bool (clashV xs)) ∧ Ext w w2 := by
  obtain ⟨hz, hi⟩ := zero_of_info infoArr
  obtain ⟨Z, hZ⟩ : ∃ Z, Z = Array.replicate 400 (Value.int .i64 0) := ⟨_, rfl⟩
  rw [← hZ] at hz
  have HZ := hid (show Z.size = 400 by rw [hZ]; exact Array.size_replicate)
  have HOK := hid hok
  have HI := hid hi
  have hm := hid (impl_linked v xs w h hok)
  clear hZ hi hok
  go_enter Try.func24, Try.ntmps24
  go_wp2_with fail
  refine (hm.out).mono ?_
  rintro e w1 ⟨rfl, x1⟩
  obtain ⟨w2, hw2⟩ : ∃ w2, w2 = w1.alloc (.cells Z 67) := ⟨_, rfl⟩
  have hg : w2.heap[w1.heap.size]? = some (.cells Z 67 (0, 0)) := by rw [hw2]; exact heap_alloc_new w1 _
  have hsz : ((lab (linkL xs)).toArray).size = 400 := by rw [List.size_toArray, lab_len]
  have hst := run_storeVar_row (P := Try.prog) w2 w1.heap.size 67 67 Z (lab (linkL xs)).toArray hg (by rw [hsz]; exact HI.out) (by rw [HZ.out, hsz]) (lab_one _)
  have hst2 : (storeCells ⟨w1.heap.size, 0, none⟩ (lab (linkL xs))).run Try.prog w2 = .ok () (w2.setRow w1.heap.size (lab (linkL xs)).toArray) := by
    have h9 := hst
    unfold storeVar at h9
    exact h9
  have x2 : Ext w1 w2 := by rw [hw2]; exact (Ext.refl _).alloc _
  have x3 : Ext w1 (w2.setRow w1.heap.size (lab (linkL xs)).toArray) := x2.setRow (Nat.le_refl _) _
  have hB3 : Blk (w2.setRow w1.heap.size (lab (linkL xs)).toArray) w1.heap.size 67 (lab (linkL xs)) := by
    have := setRow_heap w2 w1.heap.size Z (lab (linkL xs)).toArray _ _ hg
    simpa [Blk] using this
  have HX := hid (x1.trans x3)
  have HB := hid hB3
  clear hst hg hsz x2 x3 hB3
  subst hw2
  go_wp2_with fail
  refine (slices_ContainsFunc_c v xs w1.heap.size (linkL xs) _ (h.mono HX.out) HB.out HOK.out).mono ?_
  rintro e w9 ⟨rfl, x9⟩
  go_wp2
  go_ret
  exact ⟨ret_bool rfl, HX.out.trans x9⟩
end Go.Proofs.Ytmembjjgkideeaa
