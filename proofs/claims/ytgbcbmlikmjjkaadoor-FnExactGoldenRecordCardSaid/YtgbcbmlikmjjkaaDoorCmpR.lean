/-
  PLAIN LAW AND WALKS: CompareRecords (both), compareOrigins, equalRecords.
-/
import Derived.Test.YtgbcbmlikmjjkaaDoorStrC
import Derived.Test.YtgbcbmlikmjjkaaDoorRecS
import Derived.Test.YtgbcbmlikmjjkaaDoorV2
namespace Go.Proofs.YtgbcbmlikmjjkaaDoor
open Go.RowKit

def cmpO (x y : Record) : Int := firstNZ [cmpI x.source y.source, cmpI x.key y.key]
def cmpR (x y : Record) : Int := firstNZ [cmpO x y, cmpI x.version y.version, cmpSL x.fields y.fields]
theorem firstNZ_cons (a : Int) (l : List Int) : firstNZ (a :: l) = if a = 0 then firstNZ l else a := by
  by_cases h : a = 0
  · rw [firstNZ, if_neg (by simpa using h), if_pos h]
  · rw [firstNZ, if_pos h, if_neg h]
theorem cmpO_zero {x y : Record} : cmpO x y = 0 ↔ x.source = y.source ∧ x.key = y.key := by
  unfold cmpO
  rw [firstNZ_cons, firstNZ_cons, firstNZ]
  rw [← cmpI_zero (a := x.source), ← cmpI_zero (a := x.key)]
  by_cases h1 : cmpI x.source y.source = 0
  · rw [if_pos h1]
    by_cases h2 : cmpI x.key y.key = 0
    · rw [if_pos h2]; exact ⟨fun _ => ⟨h1, h2⟩, fun _ => rfl⟩
    · rw [if_neg h2]; exact ⟨fun e => absurd e h2, fun e => absurd e.2 h2⟩
  · rw [if_neg h1]; exact ⟨fun e => absurd e h1, fun e => absurd e.1 h1⟩
theorem cmpR_zero {x y : Record} : cmpR x y = 0 ↔ x = y := by
  rw [Record.ext_iff4]
  unfold cmpR
  rw [firstNZ_cons, firstNZ_cons, firstNZ_cons, firstNZ]
  rw [← cmpI_zero (a := x.version), ← cmpSL_zero (xs := x.fields)]
  have h := cmpO_zero (x := x) (y := y)
  by_cases h1 : cmpO x y = 0
  · rw [if_pos h1]
    obtain ⟨h2, h3⟩ := h.1 h1
    by_cases h4 : cmpI x.version y.version = 0
    · rw [if_pos h4]
      by_cases h5 : cmpSL x.fields y.fields = 0
      · rw [if_pos h5]; exact ⟨fun _ => ⟨h2, h3, h4, h5⟩, fun _ => rfl⟩
      · rw [if_neg h5]; exact ⟨fun e => absurd e h5, fun e => absurd e.2.2.2 h5⟩
    · rw [if_neg h4]; exact ⟨fun e => absurd e h4, fun e => absurd e.2.2.1 h4⟩
  · rw [if_neg h1]; exact ⟨fun e => absurd e h1, fun e => absurd (h.2 ⟨e.1, e.2.1⟩) h1⟩
theorem firstNZ_bd : ∀ l : List Int, (∀ x ∈ l, I64 x) → I64 (firstNZ l)
  | [], _ => by simp [firstNZ, I64]
  | x :: l, h => by
    rw [firstNZ]; split
    · exact h x (List.mem_cons_self ..)
    · exact firstNZ_bd l fun y hy => h y (List.mem_cons_of_mem _ hy)
theorem cmpO_64 (x y : Record) : I64 (cmpO x y) := firstNZ_bd _ (by simp [cmpI_64])
theorem cmpR_64 (x y : Record) : I64 (cmpR x y) := firstNZ_bd _ (by simp [cmpI_64, cmpO_64, cmpSL_64])

set_option maxHeartbeats 400000 in
set_option maxRecDepth 20000 in
theorem impl_compareOrigins (v u : Value) (x y : Record) (w : World) (h : RecAt w v x) (k : RecAt w u y) :
    Calls Tryd.prog 120 #[v, u] w fun e w2 => e = .returned (.int .i64 (cmpO x y)) ∧ Ext w w2 := by
  obtain ⟨f, rfl, hok, hs⟩ := h
  obtain ⟨g, rfl, hok2, hs2⟩ := k
  go_enter Tryd.func120, Tryd.ntmps120
  go_wp2
  refine wp_region_still_tail 10 (by kernel_rfl) (by kernel_rfl) ?_
  simp only [List.take_succ_cons, List.take_zero, List.drop_succ_cons, List.drop_zero]
  change wpStill _ _ (World.drew _) _ _ _
  repeat (first | still_step | still_call (cmp_Compare _ _ _))
  refine wpStill_nil ?_
  change wpList _ _ _ _ _ (World.drew _)
  go_wp2_with fail
  refine (cmp_Or _ [cmpI x.source y.source, cmpI x.key y.key] _ ?_).mono ?_
  · exact (Sl.new_ints _ [cmpI x.source y.source, cmpI x.key y.key] _ _ _ (by simp) (by simp) (by simp [cmpI_64]) (by simp [maxLen])).mono (Ext.refl _).drew
  rintro e w2 ⟨rfl, rfl⟩
  go_wp2
  go_ret
  exact ⟨ret_int rfl, (by repeat (first | with_reducible exact Ext.refl _ | with_reducible assumption | with_reducible refine Ext.drew ?_ | with_reducible refine Ext.alloc ?_ _ | with_reducible refine Ext.trans ?_ (by with_reducible assumption)))⟩

set_option maxHeartbeats 400000 in
set_option maxRecDepth 20000 in
theorem impl_CompareRecords (v u : Value) (x y : Record) (w : World) (h : RecAt w v x) (k : RecAt w u y) :
    Calls Tryd.prog 85 #[v, u] w fun e w2 => e = .returned (.int .i64 (cmpR x y)) ∧ Ext w w2 := by
  obtain ⟨f, rfl, hok, hs⟩ := h
  obtain ⟨g, rfl, hok2, hs2⟩ := k
  have hS : ∀ W, Ext ((w.alloc (.cells #[.int .i64 x.source, .int .i64 x.key, .int .i64 x.version, f] 38)).alloc (.cells #[.int .i64 y.source, .int .i64 y.key, .int .i64 y.version, g] 38)) W →
      (∀ i, W.cell? ⟨w.heap.size, i, none⟩ = #[.int .i64 x.source, .int .i64 x.key, .int .i64 x.version, f][i]?) ∧ (∀ i, W.cell? ⟨w.heap.size + 1, i, none⟩ = #[.int .i64 y.source, .int .i64 y.key, .int .i64 y.version, g][i]?) :=
    fun W z => ⟨(((Ext.refl _).alloc _).trans z).box.1, z.box1.1⟩
  have HK := hid hS
  clear hS
  go_enter Tryd.func85, Tryd.ntmps85
  go_wp2_with fail
  go_region_held3 (fun w' => (∀ i, w'.cell? ⟨w.heap.size, i, none⟩ = #[.int .i64 x.source, .int .i64 x.key, .int .i64 x.version, f][i]?) ∧ (∀ i, w'.cell? ⟨w.heap.size + 1, i, none⟩ = #[.int .i64 y.source, .int .i64 y.key, .int .i64 y.version, g][i]?))
    (exact HK.out _ (by repeat (first | with_reducible exact Ext.refl _ | with_reducible assumption | with_reducible refine Ext.drew ?_ | with_reducible refine Ext.alloc ?_ _ | with_reducible refine Ext.trans ?_ (by with_reducible assumption))))
    (first | (go_at_call 120; refine (impl_compareOrigins _ _ x y _ ?ha ?hb).mono ?_; (case ha => exact ⟨_, rfl, hok, hs.mono (by repeat (first | with_reducible exact Ext.refl _ | with_reducible assumption | with_reducible refine Ext.drew ?_ | with_reducible refine Ext.alloc ?_ _ | with_reducible refine Ext.trans ?_ (by with_reducible assumption)))⟩); (case hb => exact ⟨_, rfl, hok2, hs2.mono (by repeat (first | with_reducible exact Ext.refl _ | with_reducible assumption | with_reducible refine Ext.drew ?_ | with_reducible refine Ext.alloc ?_ _ | with_reducible refine Ext.trans ?_ (by with_reducible assumption)))⟩); rintro e w5 ⟨rfl, x5⟩) | (go_at_call 121; refine (cmp_Compare _ _ _).mono ?_; rintro e w6 ⟨rfl, rfl⟩) | (go_at_call 122; refine (slices_Compare_s _ _ x.fields y.fields _ ?hc ?hd).mono ?_; (case hc => exact hs.mono (by repeat (first | with_reducible exact Ext.refl _ | with_reducible assumption | with_reducible refine Ext.drew ?_ | with_reducible refine Ext.alloc ?_ _ | with_reducible refine Ext.trans ?_ (by with_reducible assumption)))); (case hd => exact hs2.mono (by repeat (first | with_reducible exact Ext.refl _ | with_reducible assumption | with_reducible refine Ext.drew ?_ | with_reducible refine Ext.alloc ?_ _ | with_reducible refine Ext.trans ?_ (by with_reducible assumption)))); rintro e w7 ⟨rfl, rfl⟩) | (go_at_call 119; refine (cmp_Or _ [cmpO x y, cmpI x.version y.version, cmpSL x.fields y.fields] _ ?he).mono ?_; (case he => exact (Sl.new_ints _ [cmpO x y, cmpI x.version y.version, cmpSL x.fields y.fields] _ _ _ (by simp) (by simp) (by simp [cmpI_64, cmpO_64, cmpSL_64]) (by simp [maxLen]))); rintro e w8 ⟨rfl, rfl⟩))
  go_wp2
  go_ret
  exact ⟨ret_int rfl, (by repeat (first | with_reducible exact Ext.refl _ | with_reducible assumption | with_reducible refine Ext.drew ?_ | with_reducible refine Ext.alloc ?_ _ | with_reducible refine Ext.trans ?_ (by with_reducible assumption)))⟩

/-- what the reference's walk knows at its loop -/
def cmpK (x y : Record) (K : Int) (j : Nat) : Prop := I64 K ∧ (K = 0 → firstNZ [cmpI x.source y.source, cmpI x.key y.key, cmpI x.version y.version] = 0 ∧ x.fields.take j = y.fields.take j) ∧ (K ≠ 0 → cmpR x y = K)
theorem fz_zero {a : Int} {l : List Int} (h : a = 0) : firstNZ (a :: l) = firstNZ l := by rw [firstNZ_cons, if_pos h]
theorem fz_pos {a : Int} {l : List Int} (h : ¬ a = 0) : firstNZ (a :: l) = a := by rw [firstNZ_cons, if_neg h]
theorem fz_one (d : Int) : firstNZ [d] = d := by
  by_cases h : d = 0
  · rw [fz_zero h]; exact h.symm
  · exact fz_pos h
theorem fz_join (a b : Int) (l : List Int) : firstNZ (firstNZ [a, b] :: l) = firstNZ (a :: b :: l) := by
  by_cases ha : a = 0
  · rw [fz_zero ha (l := [b]), fz_zero ha (l := b :: l), fz_one]
  · rw [fz_pos ha (l := [b]), fz_pos ha (l := b :: l), fz_pos ha]
theorem fz_all : ∀ {l : List Int}, firstNZ l = 0 → ∀ x ∈ l, x = 0
  | [], _, x, hx => by cases hx
  | a :: l, h, x, hx => by
    by_cases ha : a = 0
    · rw [fz_zero ha] at h
      rcases List.mem_cons.1 hx with rfl | hx
      · exact ha
      · exact fz_all h x hx
    · rw [fz_pos ha] at h; exact absurd h ha
theorem cmpR_heads (x y : Record) : cmpR x y = firstNZ [cmpI x.source y.source, cmpI x.key y.key, cmpI x.version y.version, cmpSL x.fields y.fields] := by
  unfold cmpR cmpO
  exact fz_join _ _ _
theorem cmpR_tail {x y : Record} (h : firstNZ [cmpI x.source y.source, cmpI x.key y.key, cmpI x.version y.version] = 0) : cmpR x y = cmpSL x.fields y.fields := by
  rw [cmpR_heads]
  have := firstNZ_append [cmpI x.source y.source, cmpI x.key y.key, cmpI x.version y.version] [cmpSL x.fields y.fields] (fz_all h)
  rw [fz_one] at this
  exact this
theorem cmpK_1 {x y : Record} (h : ¬ cmpI x.source y.source = 0) : cmpK x y (cmpI x.source y.source) 0 := ⟨cmpI_64 _ _, fun e => absurd e h, fun _ => by rw [cmpR_heads, firstNZ_cons, if_neg h]⟩
theorem cmpK_2 {x y : Record} (h : cmpI x.source y.source = 0) (h2 : ¬ cmpI x.key y.key = 0) : cmpK x y (cmpI x.key y.key) 0 := ⟨cmpI_64 _ _, fun e => absurd e h2, fun _ => by rw [cmpR_heads, firstNZ_cons, if_pos h, firstNZ_cons, if_neg h2]⟩
theorem cmpK_3 {x y : Record} (h : cmpI x.source y.source = 0) (h2 : cmpI x.key y.key = 0) : cmpK x y (cmpI x.version y.version) 0 := by
  refine ⟨cmpI_64 _ _, fun e => ⟨?_, rfl⟩, fun e => ?_⟩
  · rw [fz_zero h, fz_zero h2, fz_zero e]; rfl
  · rw [cmpR_heads, firstNZ_cons, if_pos h, firstNZ_cons, if_pos h2, firstNZ_cons, if_neg e]

set_option maxHeartbeats 400000 in
set_option maxRecDepth 100000 in
theorem spec_CompareRecords (v u : Value) (x y : Record) (w : World) (h : RecAt w v x) (k : RecAt w u y) :
    Calls Tryd.prog 81 #[v, u] w fun e w2 => e = .returned (.int .i64 (cmpR x y)) ∧ Ext w w2 := by
  obtain ⟨f, rfl, hok, hs⟩ := h
  obtain ⟨g, rfl, hok2, hs2⟩ := k
  clear hok hok2
  obtain ⟨A, cap, rfl, hm⟩ := hs.form
  obtain ⟨B, cap2, rfl, hm2⟩ := hs2.form
  have hS : ∀ W, Ext ((w.alloc (.cells #[.int .i64 x.source, .int .i64 x.key, .int .i64 x.version, .slice A x.fields.length cap] 38)).alloc (.cells #[.int .i64 y.source, .int .i64 y.key, .int .i64 y.version, .slice B y.fields.length cap2] 38)) W →
      W.cell? ⟨w.heap.size, 3, none⟩ = some (.slice A x.fields.length cap) ∧ W.cell? ⟨w.heap.size + 1, 3, none⟩ = some (.slice B y.fields.length cap2) :=
    fun W z => ⟨(((Ext.refl _).alloc _).trans z).box.1 3, z.box1.1 3⟩
  have HK := hid hS
  clear hS
  have n1 : (∃ K0, K0 = cmpI x.source y.source ∧ I64 K0) := ⟨_, rfl, cmpI_64 _ _⟩
  have n2 : (∃ K0, K0 = cmpI x.key y.key ∧ I64 K0) := ⟨_, rfl, cmpI_64 _ _⟩
  have n3 : (∃ K0, K0 = cmpI x.version y.version ∧ I64 K0) := ⟨_, rfl, cmpI_64 _ _⟩
  obtain ⟨c1, e1, i1⟩ := n1
  obtain ⟨c2, e2, i2⟩ := n2
  obtain ⟨c3, e3, i3⟩ := n3
  have E1 := hid e1
  have E2 := hid e2
  have E3 := hid e3
  clear e1 e2 e3
  have i1' := i1.out
  have i2' := i2.out
  have i3' := i3.out
  have start : ∃ K, (K = c1 ∧ ¬ c1 = 0 ∨ c1 = 0 ∧ K = c2 ∧ ¬ c2 = 0 ∨ c1 = 0 ∧ c2 = 0 ∧ K = c3) ∧ cmpK x y K 0 := by
    by_cases h1 : c1 = 0
    · by_cases h2 : c2 = 0
      · exact ⟨c3, .inr (.inr ⟨h1, h2, rfl⟩), E3.out ▸ cmpK_3 (E1.out ▸ h1) (E2.out ▸ h2)⟩
      · exact ⟨c2, .inr (.inl ⟨h1, rfl, h2⟩), E2.out ▸ cmpK_2 (E1.out ▸ h1) (E2.out ▸ h2)⟩
    · exact ⟨c1, .inl ⟨rfl, h1⟩, E1.out ▸ cmpK_1 (E1.out ▸ h1)⟩
  obtain ⟨K0, hway, hK0⟩ := start
  have HK0 := hid hK0
  clear hK0
  have part : ((c1 == 0) = false ∧ K0 = c1) ∨ ((c1 == 0) = true ∧ (c2 == 0) = false ∧ c1 = 0 ∧ K0 = c2) ∨ ((c1 == 0) = true ∧ (c2 == 0) = true ∧ c1 = 0 ∧ c2 = 0 ∧ K0 = c3) := by
    rcases hway with ⟨h1, h2⟩ | ⟨h1, h2, h3⟩ | ⟨h1, h2, h3⟩
    · exact .inl ⟨by simp [h2], h1⟩
    · exact .inr (.inl ⟨by simp [h1], by simp [h3], h1, h2⟩)
    · exact .inr (.inr ⟨by simp [h1], by simp [h2], h1, h2, h3⟩)
  clear hway
  rcases part with ⟨p1, p2⟩ | ⟨p1, p2, p3, p4⟩ | ⟨p1, p2, p3, p4, p5⟩
  all_goals
    try (have P3 := hid p3; clear p3)
    try (have P4 := hid p4; clear p4)
    go_enter Tryd.func81, Tryd.ntmps81
    go_wp2_with (go_at_call 118; refine (spec_l8Int _ _ _).mono ?_; rintro e w2 ⟨rfl, rfl⟩; first | rw [← E1.out] | rw [← E2.out] | rw [← E3.out])
  all_goals
    go_loopw [5, 6] (fun t i wr => ∃ (K : Int) (j : Nat), j ≤ x.fields.length ∧ j ≤ y.fields.length ∧ i = .int .i64 j ∧ t = .int .i64 K ∧ cmpK x y K j ∧ Ext ((w.alloc (.cells #[.int .i64 x.source, .int .i64 x.key, .int .i64 x.version, .slice A x.fields.length cap] 38)).alloc (.cells #[.int .i64 y.source, .int .i64 y.key, .int .i64 y.version, .slice B y.fields.length cap2] 38)) wr) (fun t i _ => (if intOf t = 0 then 1 else 0) + (x.fields.length - (intOf i).toNat))
  all_goals try (case atStart => exact ⟨_, 0, Nat.zero_le _, Nat.zero_le _, rfl, rfl, by first | exact HK0.out | (subst p2; exact HK0.out) | (rw [← P4.out]; exact HK0.out) | (rw [← p5]; exact HK0.out), Ext.refl _⟩)
  all_goals
    obtain ⟨K, j, hj1, hj2, rfl, rfl, hK, hx⟩ := hrel
    obtain ⟨ca, cb⟩ := HK.out _ hx
    have HKK := hid hK
    have hK64 := hK.1.out
    clear hK
    have xw : Ext w wr := ((((Ext.refl _).alloc _).alloc _)).trans hx
    by_cases hk0 : K = 0
    · subst hk0
      by_cases hlt : j < x.fields.length
      · by_cases hlt2 : j < y.fields.length
        · obtain ⟨b, off, rfl, hI, hc⟩ := (hs.mono xw).str hlt
          obtain ⟨b2, off2, rfl, hI2, hc2⟩ := (hs2.mono xw).str hlt2
          have ha1 : ∀ z : ExtOf wr, z.1.cell? ⟨w.heap.size, 3, none⟩ = _ := fun z => z.2.cell ca
          have ha2 : ∀ z : ExtOf wr, z.1.cell? ⟨w.heap.size + 1, 3, none⟩ = _ := fun z => z.2.cell cb
          have ha3 : ∀ z : ExtOf wr, z.1.cell? ⟨b, off + j, none⟩ = _ := fun z => z.2.cell hc
          have ha4 : ∀ z : ExtOf wr, z.1.cell? ⟨b2, off2 + j, none⟩ = _ := fun z => z.2.cell hc2
          cases hl : Op.bytesLess x.fields[j].toList y.fields[j].toList with
          | true =>
            have HN := hid (cmpS_lt hl)
            go_wp2_with fail
            refine wp_region_ext (by kernel_rfl) (by kernel_rfl) ?_
            repeat (go_big_quiet_step ((fail)))
            refine wpQuiet_nil ?_
            rintro w4 ⟨⟨_, x4⟩, rfl⟩
            have hb1 : ∀ z : ExtOf w4, z.1.cell? ⟨w.heap.size, 3, none⟩ = _ := fun z => (x4.trans z.2).cell ca
            have hb2 : ∀ z : ExtOf w4, z.1.cell? ⟨w.heap.size + 1, 3, none⟩ = _ := fun z => (x4.trans z.2).cell cb
            have hb3 : ∀ z : ExtOf w4, z.1.cell? ⟨b, off + j, none⟩ = _ := fun z => (x4.trans z.2).cell hc
            have hb4 : ∀ z : ExtOf w4, z.1.cell? ⟨b2, off2 + j, none⟩ = _ := fun z => (x4.trans z.2).cell hc2
            go_wp2_with fail
            refine wp_region_ext (by kernel_rfl) (by kernel_rfl) ?_
            repeat (go_big_quiet_step ((fail)))
            refine wpQuiet_nil ?_
            rintro w5 ⟨⟨_, x5⟩, rfl⟩
            go_wp2
            go_roundw
            case rel => exact ⟨-1, j + 1, by omega, by omega, by go_num, rfl, ⟨by simp [I64], fun e => (by omega), fun _ => by rw [cmpR_tail (HKK.out.2.1 rfl).1, cmpSL_at hlt hlt2 (HKK.out.2.1 rfl).2 (by rw [HN.out]; omega), HN.out]⟩, (hx.trans x4).trans x5⟩
            case measure => simp [intOf]; omega
          | false =>
            cases he : (x.fields[j].toList == y.fields[j].toList) with
            | true =>
              have HN := hid (toList_inj he)
              go_wp2_with fail
              refine wp_region_ext (by kernel_rfl) (by kernel_rfl) ?_
              repeat (go_big_quiet_step ((fail)))
              refine wpQuiet_nil ?_
              rintro w4 ⟨⟨_, x4⟩, rfl⟩
              have hb1 : ∀ z : ExtOf w4, z.1.cell? ⟨w.heap.size, 3, none⟩ = _ := fun z => (x4.trans z.2).cell ca
              have hb2 : ∀ z : ExtOf w4, z.1.cell? ⟨w.heap.size + 1, 3, none⟩ = _ := fun z => (x4.trans z.2).cell cb
              have hb3 : ∀ z : ExtOf w4, z.1.cell? ⟨b, off + j, none⟩ = _ := fun z => (x4.trans z.2).cell hc
              have hb4 : ∀ z : ExtOf w4, z.1.cell? ⟨b2, off2 + j, none⟩ = _ := fun z => (x4.trans z.2).cell hc2
              go_wp2_with fail
              refine wp_region_ext (by kernel_rfl) (by kernel_rfl) ?_
              repeat (go_big_quiet_step ((fail)))
              refine wpQuiet_nil ?_
              rintro w5 ⟨⟨_, x5⟩, rfl⟩
              go_wp2
              go_roundw
              case rel => exact ⟨0, j + 1, by omega, by omega, by go_num, rfl, ⟨by simp [I64], fun _ => ⟨(HKK.out.2.1 rfl).1, take_snoc_eq hlt hlt2 HN.out (HKK.out.2.1 rfl).2⟩, fun e => absurd rfl e⟩, (hx.trans x4).trans x5⟩
              case measure => simp [intOf]; omega
            | false =>
              have HN := hid (cmpS_gt hl he)
              go_wp2_with fail
              refine wp_region_ext (by kernel_rfl) (by kernel_rfl) ?_
              repeat (go_big_quiet_step ((fail)))
              refine wpQuiet_nil ?_
              rintro w4 ⟨⟨_, x4⟩, rfl⟩
              have hb1 : ∀ z : ExtOf w4, z.1.cell? ⟨w.heap.size, 3, none⟩ = _ := fun z => (x4.trans z.2).cell ca
              have hb2 : ∀ z : ExtOf w4, z.1.cell? ⟨w.heap.size + 1, 3, none⟩ = _ := fun z => (x4.trans z.2).cell cb
              have hb3 : ∀ z : ExtOf w4, z.1.cell? ⟨b, off + j, none⟩ = _ := fun z => (x4.trans z.2).cell hc
              have hb4 : ∀ z : ExtOf w4, z.1.cell? ⟨b2, off2 + j, none⟩ = _ := fun z => (x4.trans z.2).cell hc2
              go_wp2_with fail
              refine wp_region_ext (by kernel_rfl) (by kernel_rfl) ?_
              repeat (go_big_quiet_step ((fail)))
              refine wpQuiet_nil ?_
              rintro w5 ⟨⟨_, x5⟩, rfl⟩
              go_wp2
              go_roundw
              case rel => exact ⟨1, j + 1, by omega, by omega, by go_num, rfl, ⟨by simp [I64], fun e => (by omega), fun _ => by rw [cmpR_tail (HKK.out.2.1 rfl).1, cmpSL_at hlt hlt2 (HKK.out.2.1 rfl).2 (by rw [HN.out]; omega), HN.out]⟩, (hx.trans x4).trans x5⟩
              case measure => simp [intOf]; omega
        · go_wp2_with (go_at_call 118; refine (spec_l8Int _ _ _).mono ?_; rintro e w2 ⟨rfl, rfl⟩)
          go_ret
          exact ⟨ret_int (by rw [cmpR_tail (HKK.out.2.1 rfl).1, cmpSL_end hj1 hj2 (HKK.out.2.1 rfl).2 (by omega)]), xw⟩
      · go_wp2_with (go_at_call 118; refine (spec_l8Int _ _ _).mono ?_; rintro e w2 ⟨rfl, rfl⟩)
        go_ret
        exact ⟨ret_int (by rw [cmpR_tail (HKK.out.2.1 rfl).1, cmpSL_end hj1 hj2 (HKK.out.2.1 rfl).2 (by omega)]), xw⟩
    · have hk1 : (K == 0) = false := by simp [hk0]
      have HN := hid (HKK.out.2.2 hk0)
      clear hk0
      by_cases hlt : j < x.fields.length
      · by_cases hlt2 : j < y.fields.length
        · go_wp2
          go_ret
          exact ⟨ret_int HN.out.symm, xw⟩
        · go_wp2
          go_ret
          exact ⟨ret_int HN.out.symm, xw⟩
      · go_wp2
        go_ret
        exact ⟨ret_int HN.out.symm, xw⟩
end Go.Proofs.YtgbcbmlikmjjkaaDoor
