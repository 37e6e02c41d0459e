/-
  WALKS: GoldenRecord (both).
-/
import Derived.Test.YtgbcbmlikmjjkaaDoorGolG
import Derived.Test.YtgbcbmlikmjjkaaDoorApp
namespace Go.Proofs.YtgbcbmlikmjjkaaDoor
open Go.RowKit

theorem elemStrG : ElemT Tryd.prog 29 9 strO.n 16 := by
  obtain ⟨i, h1, h2, h3, h4⟩ := info_parts infoStr
  exact ⟨Tryd.underlying29, i, _, h1, h2, h3, h4, rfl⟩
theorem one_strG (s : ByteArray) : ∀ u ∈ (#[Value.string s] : Array Value).toList, u.oneCell' = true := by simp [Value.oneCell']
theorem own_strG (W : World) (s : ByteArray) (h : s.size ≤ maxLen) : strO.own W (#[Value.string s] : Array Value).toList s [] := ⟨⟨rfl, h⟩, rfl⟩
theorem fld_size {r : Record} (h : okRec r = true) (q : Nat) : (fldAt q r).size ≤ 40 := by
  by_cases hq : q < r.fields.length
  · rw [fldAt_eq hq]; exact okRec_F h _ (List.getElem_mem hq)
  · unfold fldAt
    rw [List.getD_eq_getElem?_getD, List.getElem?_eq_none (by omega)]
    exact Nat.zero_le _
theorem gfF_size (zs : List Record) (q : Nat) (rule : Int) : ∀ (l : List Record) (b : ByteArray × Int), (∀ r ∈ l, okRec r = true) → b.1.size ≤ 40 → (l.foldl (gfStep zs q rule) b).1.size ≤ 40
  | [], _, _, h => h
  | r :: l, b, ho, h => by
    rw [List.foldl_cons]
    refine gfF_size zs q rule l _ (fun r hr => ho r (List.mem_cons_of_mem _ hr)) ?_
    unfold gfStep
    split
    · exact h
    · split
      · exact fld_size (ho r (List.mem_cons_self ..)) q
      · exact h
theorem gfN_size (xs : List Record) (f rule : Int) : (gfN xs f rule).size ≤ 40 := by
  unfold gfN
  split
  · rename_i h
    exact gfF_size xs _ rule xs _ (fun r hr => goodRecs_at h.1 hr) (Nat.zero_le _)
  · exact Nat.zero_le _
def grOk (xs : List Record) (rs : List Int) : Bool := goodRecs xs && decide (0 < xs.length) && survRules rs
noncomputable def grL (xs : List Record) (rs : List Int) (k : Nat) : List ByteArray := (List.range k).map fun i => gfN xs (i : Nat) (rs.getD i 0)
noncomputable def grN (xs : List Record) (rs : List Int) : List ByteArray := if grOk xs rs = true then grL xs rs 4 else []
theorem grN_no {xs : List Record} {rs : List Int} (h : grOk xs rs = false) : grN xs rs = [] := by unfold grN; rw [h]; rfl
theorem grN_yes {xs : List Record} {rs : List Int} (h : grOk xs rs = true) : grN xs rs = grL xs rs 4 := by unfold grN; rw [if_pos h]
theorem grL_step {xs : List Record} {rs : List Int} {k : Nat} (h : k < rs.length) : grL xs rs (k + 1) = grL xs rs k ++ [gfN xs (k : Nat) rs[k]] := by
  unfold grL
  rw [List.range_succ, List.map_append]
  simp [h]
theorem grL_len (xs : List Record) (rs : List Int) (k : Nat) : (grL xs rs k).length = k := by unfold grL; simp
theorem grN_len (xs : List Record) (rs : List Int) : (grN xs rs).length ≤ 4 := by
  unfold grN
  split
  · rw [grL_len]; exact Nat.le_refl _
  · exact Nat.zero_le _
theorem survRules_len {rs : List Int} (h : survRules rs = true) : rs.length = 4 := by
  unfold survRules at h
  simp only [Bool.and_eq_true, beq_iff_eq] at h
  exact h.1

set_option maxHeartbeats 400000 in
set_option maxRecDepth 20000 in
theorem impl_GoldenRecord (v u : Value) (xs : List Record) (rs : List Int) (w : World) (h : Sl recordR w v xs) (k : Sl intR w u rs) (M : ML w) :
    Calls Tryd.prog 42 #[v, u] w fun e w2 => ∃ v2 F, e = .returned (.tuple #[v2, .bool (grOk xs rs)]) ∧ OwnSl strO w2 v2 (grN xs rs) F ∧ NewF w F ∧ Ext w w2 := by
  obtain ⟨A, cap, rfl, hm⟩ := k.form
  go_enter Tryd.func42, Tryd.ntmps42
  go_wp2_with fail
  refine (impl_goldenRecords _ xs _ h).mono ?_
  rintro e w3 ⟨gv, rfl, hgv0, x3⟩
  have hgv := hgv0.sl (h.mono x3)
  clear hgv0
  obtain ⟨A3, cap3, rfl, hm3⟩ := hgv.form
  by_cases hz : (goldRecs xs).length = 0
  · have hno : grOk xs rs = false := by
      unfold grOk
      by_cases hg : goodRecs xs = true
      · have : ¬ 0 < xs.length := by
          unfold goldRecs at hz
          rw [if_pos hg] at hz
          omega
        simp [this]
      · simp [hg]
    have HN := hid (And.intro hno (grN_no hno))
    have hz' : (((goldRecs xs).length : Nat) : Int) = 0 := by omega
    clear hz hno
    go_wp2
    refine bodyPost_ret (v := .tuple #[.slice none 0 0, .bool false]) (by simp [results, Tryd.results42, go_sem]) rfl ?_
    obtain ⟨F, o, n1, n2⟩ := (Bld.nil (R := strO) w3 w.heap.size 9).done
    exact ⟨_, F, by rw [HN.out.1], by rw [HN.out.2]; exact o, ⟨n1, n2⟩, x3⟩
  · have hz' : ((((goldRecs xs).length : Nat) : Int) == 0) = false := by rw [beq_eq_false_iff_ne]; omega
    have HG : Hid (goodRecs xs = true ∧ 0 < xs.length) := by
      unfold goldRecs at hz
      split at hz
      · rename_i hg; exact hid ⟨hg, by omega⟩
      · exact absurd rfl hz
    clear hz
    go_wp2_with fail
    refine (impl_AreSurvivorRules _ rs _ (k.mono x3)).mono ?_
    rintro e w4 ⟨rfl, x4⟩
    cases hs : survRules rs with
    | false =>
      have hno : grOk xs rs = false := by unfold grOk; rw [hs, Bool.and_false]
      have HN := hid (And.intro hno (grN_no hno))
      clear hs hno
      go_wp2
      refine bodyPost_ret (v := .tuple #[.slice none 0 0, .bool false]) (by simp [results, Tryd.results42, go_sem]) rfl ?_
      obtain ⟨F, o, n1, n2⟩ := (Bld.nil (R := strO) w4 w.heap.size 9).done
      exact ⟨_, F, by rw [HN.out.1], by rw [HN.out.2]; exact o, ⟨n1, n2⟩, x3.trans x4⟩
    | true =>
      have hyes : grOk xs rs = true := by unfold grOk; rw [hs, HG.out.1, decide_eq_true HG.out.2]; rfl
      have HN := hid (And.intro hyes (grN_yes hyes))
      have HL := hid (survRules_len hs)
      clear hs hyes hz'
      go_wp2
      go_loopw [6, 20] (fun c i wr => ∃ (j : Nat), j ≤ rs.length ∧ i = .int .i64 j ∧ Bld strO wr w.heap.size 9 c (grL xs rs j) [] ∧ Ext w wr) (fun _ i _ => rs.length - (intOf i).toNat)
      case atStart => exact ⟨0, Nat.zero_le _, rfl, Bld.nil w4 w.heap.size _, x3.trans x4⟩
      case round =>
        obtain ⟨j, hj, rfl, hB, hx⟩ := hrel
        by_cases hlt : j < rs.length
        · obtain ⟨b, off, rfl, hI, hc0⟩ := k.int hlt
          have hc := hx.cell hc0
          have HS := hid (show (gfN xs (j : Nat) rs[j]).size ≤ maxLen by have := gfN_size xs (j : Nat) rs[j]; unfold maxLen; omega)
          have hlen : (grL xs rs j).length ≤ 4 := by rw [grL_len]; have := HL.out; omega
          have hj64 : I64 ((j : Nat) : Int) := by have := HL.out; unfold I64; omega
          clear hc0
          go_wp2_with fail
          refine (impl_GoldenField _ xs (j : Nat) rs[j] _ (h.mono hx) hj64 hI (M.mono hx)).mono ?_
          rintro e w5 ⟨rfl, x5⟩
          have hB2 := hB.ext x5
          have hbs := (hx.trans x5).size
          go_wp2_with (at_builtin; refine wpList_app1 elemStrG (by decide) rfl _ _ rfl hB2 rfl w5.heap.size 1 rfl rfl (one_strG _) (own_strG _ (gfN xs (j : Nat) rs[j]) HS.out) fresh_nil (by omega) (by decide) hbs ?_; intro v9 w9 hB9 hE9)
          go_roundw
          case rel => exact ⟨j + 1, by omega, by go_num, by rw [grL_step hlt]; exact hB9, hE9 _ (Nat.le_refl _) (hx.trans x5)⟩
          case measure => simp [intOf]; omega
        · have ej : Hid (j = 4) := hid (by have := HL.out; omega)
          obtain ⟨F, o, n1, n2⟩ := hB.done
          obtain ⟨A9, cap9, e9, _⟩ := o.form
          subst e9
          have HO := hid o
          clear o hB
          go_wp2
          refine bodyPost_ret (v := .tuple #[.slice A9 (grL xs rs j).length cap9, .bool true]) (by simp [results, Tryd.results42, go_sem]) rfl ?_
          refine ⟨_, F, by rw [HN.out.1], ?_, ⟨n1, n2⟩, hx⟩
          rw [HN.out.2]
          have := HO.out
          rw [ej.out] at this ⊢
          exact this

set_option maxHeartbeats 400000 in
set_option maxRecDepth 20000 in
theorem spec_GoldenRecord (v u : Value) (xs : List Record) (rs : List Int) (w : World) (h : Sl recordR w v xs) (k : Sl intR w u rs) :
    Calls Tryd.prog 40 #[v, u] w fun e w2 => ∃ v2 F, e = .returned (.tuple #[v2, .bool (grOk xs rs)]) ∧ OwnSl strO w2 v2 (grN xs rs) F ∧ NewF w F ∧ Ext w w2 := by
  obtain ⟨A, cap, rfl, hm⟩ := k.form
  obtain ⟨A3, cap3, rfl, hm3⟩ := h.form
  have hend : ∀ w9 : World, Ext w w9 → grOk xs rs = false → ∃ v2 F, Ending.returned (.tuple #[.slice (some ⟨w9.heap.size, 0, none⟩) 0 0, .bool false]) = Ending.returned (.tuple #[v2, .bool (grOk xs rs)]) ∧ OwnSl strO (w9.alloc (.cells #[] 9)) v2 (grN xs rs) F ∧ NewF w F ∧ Ext w (w9.alloc (.cells #[] 9)) := fun w9 x9 hno => by
    obtain ⟨F, o, n1, n2⟩ := (Bld.lit (R := strO) w9 x9.size 9).done
    exact ⟨_, F, by rw [hno], by rw [grN_no hno]; exact o, ⟨n1, n2⟩, x9.alloc _⟩
  have HEND := hid hend
  clear hend
  go_enter Tryd.func40, Tryd.ntmps40
  go_wp2_with fail
  refine (spec_l13Good _ xs _ h).mono ?_
  rintro e w3 ⟨rfl, x3⟩
  cases hg : goodRecs xs with
  | false =>
    have hno : Hid (grOk xs rs = false) := hid (by unfold grOk; rw [hg]; rfl)
    clear hg
    go_wp2
    refine bodyPost_ret (v := .tuple #[.slice (some ⟨w3.heap.size, 0, none⟩) 0 0, .bool false]) (by simp [results, Tryd.results40, go_sem]) rfl ?_
    exact HEND.out _ x3 hno.out
  | true =>
    have HG := hid hg
    clear hg
    by_cases hz : xs.length = 0
    · have hno : Hid (grOk xs rs = false) := hid (by unfold grOk; simp [hz])
      have hz' : ((xs.length : Nat) : Int) = 0 := by omega
      clear hz
      go_wp2
      refine bodyPost_ret (v := .tuple #[.slice (some ⟨w3.heap.size, 0, none⟩) 0 0, .bool false]) (by simp [results, Tryd.results40, go_sem]) rfl ?_
      exact HEND.out _ x3 hno.out
    · have hz' : (((xs.length : Nat) : Int) == 0) = false := by rw [beq_eq_false_iff_ne]; omega
      have HP := hid (show 0 < xs.length by omega)
      clear hz
      go_wp2_with fail
      refine (spec_AreSurvivorRules _ rs _ (k.mono x3)).mono ?_
      rintro e w4 ⟨rfl, x4⟩
      cases hs : survRules rs with
      | false =>
        have hno : Hid (grOk xs rs = false) := hid (by unfold grOk; rw [hs, Bool.and_false])
        clear hs
        go_wp2
        refine bodyPost_ret (v := .tuple #[.slice (some ⟨w4.heap.size, 0, none⟩) 0 0, .bool false]) (by simp [results, Tryd.results40, go_sem]) rfl ?_
        exact HEND.out _ (x3.trans x4) hno.out
      | true =>
        have hyes : grOk xs rs = true := by unfold grOk; rw [hs, HG.out, decide_eq_true HP.out]; rfl
        have HN := hid (And.intro hyes (grN_yes hyes))
        have HL := hid (survRules_len hs)
        clear hs hyes hz'
        go_wp2
        go_loopw [6, 7] (fun c i wr => ∃ (j : Nat), j ≤ 4 ∧ i = .int .i64 j ∧ Bld strO wr w.heap.size 9 c (grL xs rs j) [] ∧ Ext w wr) (fun _ i _ => 4 - (intOf i).toNat)
        case atStart => exact ⟨0, Nat.zero_le _, rfl, Bld.lit w4 (x3.trans x4).size _, (x3.trans x4).alloc _⟩
        case round =>
          obtain ⟨j, hj, rfl, hB, hx⟩ := hrel
          by_cases hlt4 : j < 4
          · have hlt : j < rs.length := by rw [HL.out]; exact hlt4
            obtain ⟨b, off, rfl, hI, hc0⟩ := k.int hlt
            have hc := hx.cell hc0
            have HS := hid (show (gfN xs (j : Nat) rs[j]).size ≤ maxLen by have := gfN_size xs (j : Nat) rs[j]; unfold maxLen; omega)
            have hlen : (grL xs rs j).length ≤ 4 := by rw [grL_len]; omega
            have hj64 : I64 ((j : Nat) : Int) := by unfold I64; omega
            clear hc0
            go_wp2_with fail
            refine (spec_GoldenField _ xs (j : Nat) rs[j] _ (h.mono hx) hj64 hI).mono ?_
            rintro e w5 ⟨rfl, x5⟩
            have hB2 := hB.ext x5
            have hbs := (hx.trans x5).size
            go_wp2_with (at_builtin; refine wpList_app1 elemStrG (by decide) rfl _ _ rfl hB2 rfl w5.heap.size 1 rfl rfl (one_strG _) (own_strG _ (gfN xs (j : Nat) rs[j]) HS.out) fresh_nil (by omega) (by decide) hbs ?_; intro v9 w9 hB9 hE9)
            go_roundw
            case rel => exact ⟨j + 1, by omega, by go_num, by rw [grL_step hlt]; exact hB9, hE9 _ (Nat.le_refl _) (hx.trans x5)⟩
            case measure => simp [intOf]; omega
          · have ej : Hid (j = 4) := hid (by omega)
            obtain ⟨F, o, n1, n2⟩ := hB.done
            obtain ⟨A9, cap9, e9, _⟩ := o.form
            subst e9
            have HO := hid o
            clear o hB
            go_wp2
            refine bodyPost_ret (v := .tuple #[.slice A9 (grL xs rs j).length cap9, .bool true]) (by simp [results, Tryd.results40, go_sem]) rfl ?_
            refine ⟨_, F, by rw [HN.out.1], ?_, ⟨n1, n2⟩, hx⟩
            rw [HN.out.2]
            have := HO.out
            rw [ej.out] at this ⊢
            exact this
end Go.Proofs.YtgbcbmlikmjjkaaDoor
