/-
  WALKS: storeItems, StoreItems (both).
-/
import Derived.Test.YtbhhbdilaihegaaVSto
import Derived.Test.YtbhhbdilaihegaaAppI
namespace Go.Proofs.Ytbhhbdilaihegaa
open Go.RowKit

noncomputable def itemsOf (s : Store) : List Int := if okSto s = true then s.records.map recID else []
theorem recID_64 (r : Record) : I64 (recID r) := by unfold recID I64 wrap64; omega
theorem okSto_len {s : Store} (h : okSto s = true) : s.records.length ≤ 8 := by
  unfold okSto at h
  simp only [Bool.and_eq_true, decide_eq_true_eq] at h
  omega
theorem items_len (s : Store) : (itemsOf s).length ≤ 8 := by
  unfold itemsOf; split
  · rename_i h; rw [List.length_map]; exact okSto_len h
  · simp

set_option maxHeartbeats 400000 in
set_option maxRecDepth 20000 in
theorem impl_storeItems (v : Value) (s : Store) (w : World) (h : StoAt w v s) (hl : s.records.length ≤ 8) :
    Calls Try.prog 110 #[v] w fun e w2 => ∃ v2 F, e = .returned v2 ∧ OwnSl intO w2 v2 (s.records.map recID) F ∧ NewF w F ∧ Ext w w2 := by
  obtain ⟨r, d, rfl, hI, hr, hd⟩ := h
  obtain ⟨A, cap, rfl, hm⟩ := hr.form
  have xB : Ext w (w.alloc (.cells #[.int .i64 s.version, .slice A s.records.length cap, d] 54)) := (Ext.refl _).alloc _
  go_enter Try.func110, Try.ntmps110
  go_wp2
  go_loopw [3, 9] (fun t i wr => ∃ k : Nat, k ≤ s.records.length ∧ i = .int .i64 k ∧ Bld intO wr (w.heap.size + 1) 3 t ((s.records.take k).map recID) [] ∧ Ext (w.alloc (.cells #[.int .i64 s.version, .slice A s.records.length cap, d] 54)) wr) (fun _ i _ => s.records.length - (intOf i).toNat)
  case atStart => exact ⟨0, Nat.zero_le _, rfl, Bld.nil _ _ _, Ext.refl _⟩
  case round =>
    obtain ⟨k, hk, rfl, hB, hx⟩ := hrel
    have hsz := hx.size
    rw [World.size_alloc] at hsz
    by_cases hlt : k < s.records.length
    · obtain ⟨b, off, A2, cap2, rfl, hok, hsl, hc0, hc1, hc2, hc3⟩ := (hr.mono (xB.trans hx)).record hlt
      have hlen : ((s.records.take k).map recID).length ≤ 8 := by rw [List.length_map, List.length_take]; omega
      have hR : ∀ W, Ext wr W → RecAt W (.agg #[.int .i64 s.records[k].source, .int .i64 s.records[k].key, .int .i64 s.records[k].version, .slice A2 s.records[k].fields.length cap2]) s.records[k] := fun W z => ⟨_, rfl, hok, hsl.mono z⟩
      have HR := hid hR
      clear hR
      go_wp2_with fail
      refine (impl_RecordID _ s.records[k] _ (HR.out _ ((Ext.refl _).alloc _))).mono ?_
      rintro e w2 ⟨rfl, x2⟩
      have y2 : Ext wr w2 := ((Ext.refl _).alloc _).trans x2
      have hB2 := hB.ext y2
      have hs2 := y2.size
      go_wp2_with (at_builtin; refine wpList_app1 elemInt (by decide) rfl _ _ rfl hB2 rfl w2.heap.size 1 rfl rfl (one_int _) (own_int _ _ (recID_64 _)) fresh_nil (by omega) (by decide) (by omega) ?_; intro v9 w9 hB9 hE9)
      go_roundw
      case rel => exact ⟨k + 1, by omega, by go_num, by rw [List.take_succ_eq_append_getElem hlt, List.map_append]; exact hB9, hE9 _ (by simp) (hx.trans y2)⟩
      case measure => simp [intOf]; omega
    · rw [List.take_of_length_le (by omega)] at hB
      obtain ⟨F', d1, d2, d3⟩ := hB.done
      go_wp2
      go_ret
      exact ⟨_, F', rfl, d1, ⟨d2, fun b hb => by have := d3 b hb; omega⟩, xB.trans hx⟩

set_option maxHeartbeats 400000 in
set_option maxRecDepth 20000 in
theorem impl_StoreItems (v : Value) (s : Store) (w : World) (h : StoAt w v s) :
    Calls Try.prog 60 #[v] w fun e w2 => ∃ v2 F, e = .returned v2 ∧ OwnSl intO w2 v2 (itemsOf s) F ∧ NewF w F ∧ Ext w w2 := by
  obtain ⟨r, d, rfl, hI, hr, hd⟩ := h
  have xB : Ext w (w.alloc (.cells #[.int .i64 s.version, r, d] 54)) := (Ext.refl _).alloc _
  have HB := hid (show ∀ W, Ext (w.alloc (.cells #[.int .i64 s.version, r, d] 54)) W → W.cell? ⟨w.heap.size, 0, none⟩ = some (.int .i64 s.version) ∧ W.cell? ⟨w.heap.size, 1, none⟩ = some r ∧ W.cell? ⟨w.heap.size, 2, none⟩ = some d from fun W z => ⟨z.box.1 0, z.box.1 1, z.box.1 2⟩)
  go_enter Try.func60, Try.ntmps60
  go_wp2_with fail
  refine (impl_IsValidStore _ s _ ⟨_, _, rfl, hI, hr.mono xB, hd.mono xB⟩).mono ?_
  rintro e w2 ⟨rfl, x2⟩
  obtain ⟨b0, b1, b2⟩ := HB.out _ x2
  cases hok : okSto s with
  | false =>
    have hi := hid (show itemsOf s = [] by unfold itemsOf; rw [if_neg (by simp [hok])])
    go_wp2
    go_ret
    exact ⟨_, [], rfl, by rw [hi.out]; exact .inl ⟨rfl, rfl, none, 0, rfl, Nat.zero_le _⟩, .nil _, xB.trans x2⟩
  | true =>
    have hi := hid (show itemsOf s = s.records.map recID by unfold itemsOf; rw [if_pos hok])
    have hl8 := okSto_len hok
    go_wp2_with fail
    refine (impl_storeItems _ s _ ⟨_, _, rfl, hI, hr.mono (xB.trans x2), hd.mono (xB.trans x2)⟩ hl8).mono ?_
    rintro e w3 ⟨v3, F, rfl, ho, hn, x3⟩
    go_wp2
    go_ret
    exact ⟨_, F, rfl, by rw [hi.out]; exact ho, hn.ext (xB.trans x2), (xB.trans x2).trans x3⟩

set_option maxHeartbeats 400000 in
set_option maxRecDepth 20000 in
theorem spec_StoreItems (v : Value) (s : Store) (w : World) (h : StoAt w v s) :
    Calls Try.prog 59 #[v] w fun e w2 => ∃ v2 F, e = .returned v2 ∧ OwnSl intO w2 v2 (itemsOf s) F ∧ NewF w F ∧ Ext w w2 := by
  obtain ⟨r, d, rfl, hI, hr, hd⟩ := h
  obtain ⟨A, cap, rfl, hm⟩ := hr.form
  have xB : Ext w (w.alloc (.cells #[.int .i64 s.version, .slice A s.records.length cap, d] 54)) := (Ext.refl _).alloc _
  have HB := hid (show ∀ W, Ext (w.alloc (.cells #[.int .i64 s.version, .slice A s.records.length cap, d] 54)) W → W.cell? ⟨w.heap.size, 0, none⟩ = some (.int .i64 s.version) ∧ W.cell? ⟨w.heap.size, 1, none⟩ = some (.slice A s.records.length cap) ∧ W.cell? ⟨w.heap.size, 2, none⟩ = some d from fun W z => ⟨z.box.1 0, z.box.1 1, z.box.1 2⟩)
  go_enter Try.func59, Try.ntmps59
  go_wp2
  go_loopw [3, 4] (fun t i wr => ∃ k : Nat, k ≤ s.records.length ∧ i = .int .i64 k ∧ (0 < k → okSto s = true) ∧ Bld intO wr (w.heap.size + 1) 3 t ((s.records.take k).map recID) [] ∧ Ext (w.alloc (.cells #[.int .i64 s.version, .slice A s.records.length cap, d] 54)) wr) (fun _ i _ => s.records.length - (intOf i).toNat)
  case atStart => exact ⟨0, Nat.zero_le _, rfl, fun h => absurd h (Nat.lt_irrefl _), by simpa using Bld.lit (R := intO) (w.alloc (.cells #[.int .i64 s.version, .slice A s.records.length cap, d] 54)) (Nat.le_refl _) 3, (Ext.refl _).alloc _⟩
  case round =>
    obtain ⟨k, hk, rfl, hpos, hB, hx⟩ := hrel
    have HP := hid hpos
    clear hpos
    have hsz := hx.size
    rw [World.size_alloc] at hsz
    have xw := xB.trans hx
    obtain ⟨b0, b1, b2⟩ := HB.out _ hx
    by_cases hlt : k < s.records.length
    · go_wp2_with fail
      refine (spec_IsValidStore _ s _ ⟨_, _, rfl, hI, hr.mono xw, hd.mono xw⟩).mono ?_
      rintro e w2 ⟨rfl, x2⟩
      cases hok : okSto s with
      | false =>
        have hi := hid (show itemsOf s = [] by unfold itemsOf; rw [if_neg (by simp [hok])])
        have hk0 : k = 0 := by
          cases Nat.eq_zero_or_pos k with
          | inl h => exact h
          | inr h => have := HP.out h; rw [hok] at this; cases this
        subst hk0
        obtain ⟨F', d1, d2, d3⟩ := (hB.ext x2).done
        go_wp2
        go_ret
        exact ⟨_, F', rfl, by rw [hi.out]; simpa using d1, ⟨d2, fun b hb => by have := d3 b hb; omega⟩, xw.trans x2⟩
      | true =>
        have HO := hid hok
        have hl8 := okSto_len hok
        clear hok
        have y2 := hx.trans x2
        obtain ⟨b3, b4, b5⟩ := HB.out _ y2
        obtain ⟨b, off, A2, cap2, rfl, hok2, hsl, hc0, hc1, hc2, hc3⟩ := (hr.mono (xB.trans y2)).record hlt
        have hlen : ((s.records.take k).map recID).length ≤ 8 := by rw [List.length_map, List.length_take]; omega
        go_wp2_with fail
        refine (spec_RecordID _ s.records[k] _ ⟨_, rfl, hok2, hsl⟩).mono ?_
        rintro e w3 ⟨rfl, x3⟩
        have hB2 := (hB.ext x2).ext x3
        have hs2 := (x2.trans x3).size
        go_wp2_with (at_builtin; refine wpList_app1 elemInt (by decide) rfl _ _ rfl hB2 rfl w3.heap.size 1 rfl rfl (one_int _) (own_int _ _ (recID_64 _)) fresh_nil (by omega) (by decide) (by omega) ?_; intro v9 w9 hB9 hE9)
        go_roundw
        case rel => exact ⟨k + 1, by omega, by go_num, fun _ => HO.out, by rw [List.take_succ_eq_append_getElem hlt, List.map_append]; exact hB9, hE9 _ (by simp) (y2.trans x3)⟩
        case measure => simp [intOf]; omega
    · have hi : itemsOf s = (s.records.take k).map recID := by
        unfold itemsOf
        by_cases h0 : 0 < k
        · rw [if_pos (HP.out h0), List.take_of_length_le (by omega)]
        · have : s.records = [] := List.eq_nil_of_length_eq_zero (by omega)
          rw [this]; simp
      have HI := hid hi
      clear hi
      obtain ⟨F', d1, d2, d3⟩ := hB.done
      go_wp2
      go_ret
      exact ⟨_, F', rfl, by rw [HI.out]; exact d1, ⟨d2, fun b hb => by have := d3 b hb; omega⟩, xw⟩
end Go.Proofs.Ytbhhbdilaihegaa
