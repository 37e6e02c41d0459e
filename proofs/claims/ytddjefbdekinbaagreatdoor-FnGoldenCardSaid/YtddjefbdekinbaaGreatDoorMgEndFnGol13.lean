/-
  SEVERAL SMALL TEXTS LAID TOGETHER: GolR, GolP.
-/
import Derived.Test.YtddjefbdekinbaaGreatDoorMgEndFnGol12
import Derived.Test.YtddjefbdekinbaaGreatDoorMgEndFnGol0
import Derived.Test.YtddjefbdekinbaaGreatDoorMgEndFnGol6

namespace Go.Proofs.YtddjefbdekinbaaGreatDoor
open Go.RowKit

theorem elemStrG : ElemT Tryz.prog 28 9 strO.n 16 := by
  obtain ⟨i, h1, h2, h3, h4⟩ := info_parts infoStr
  exact ⟨Tryz.underlying28, i, _, h1, h2, h3, h4, rfl⟩
theorem one_strG (s : ByteArray) : ∀ u ∈ (#[Value.string s] : Array Value).toList, u.oneCell' = true := by simp [Value.oneCell']
theorem own_strG (W : World) (s : ByteArray) (h : s.size ≤ maxLen) : strO.own W (#[Value.string s] : Array Value).toList s [] := ⟨⟨rfl, h⟩, rfl⟩
theorem fld_size {r : Record} (h : okRec r = true) (q : Nat) : (fldAt q r).size ≤ 40 := by
  by_cases hq : q < r.fields.length
  · rw [fldAt_eq hq]; exact okRec_F h _ (List.getElem_mem hq)
  · unfold fldAt
    rw [List.getD_eq_getElem?_getD, List.getElem?_eq_none (by omega)]
    exact Nat.zero_le _
theorem gfF_size (zs : List Record) (q : Nat) (rule : Int) : ∀ (l : List Record) (b : ByteArray × Int), (∀ r ∈ l, okRec r = true) → b.1.size ≤ 40 → (l.foldl (gfStep zs q rule) b).1.size ≤ 40
  | [], _, _, h => h
  | r :: l, b, ho, h => by
    rw [List.foldl_cons]
    refine gfF_size zs q rule l _ (fun r hr => ho r (List.mem_cons_of_mem _ hr)) ?_
    unfold gfStep
    split
    · exact h
    · split
      · exact fld_size (ho r (List.mem_cons_self ..)) q
      · exact h
theorem gfN_size (xs : List Record) (f rule : Int) : (gfN xs f rule).size ≤ 40 := by
  unfold gfN
  split
  · rename_i h
    exact gfF_size xs _ rule xs _ (fun r hr => goodRecs_at h.1 hr) (Nat.zero_le _)
  · exact Nat.zero_le _
def grOk (xs : List Record) (rs : List Int) : Bool := goodRecs xs && decide (0 < xs.length) && survRules rs
noncomputable def grL (xs : List Record) (rs : List Int) (k : Nat) : List ByteArray := (List.range k).map fun i => gfN xs (i : Nat) (rs.getD i 0)
noncomputable def grN (xs : List Record) (rs : List Int) : List ByteArray := if grOk xs rs = true then grL xs rs 4 else []
theorem grN_no {xs : List Record} {rs : List Int} (h : grOk xs rs = false) : grN xs rs = [] := by unfold grN; rw [h]; rfl
theorem grN_yes {xs : List Record} {rs : List Int} (h : grOk xs rs = true) : grN xs rs = grL xs rs 4 := by unfold grN; rw [if_pos h]
theorem grL_step {xs : List Record} {rs : List Int} {k : Nat} (h : k < rs.length) : grL xs rs (k + 1) = grL xs rs k ++ [gfN xs (k : Nat) rs[k]] := by
  unfold grL
  rw [List.range_succ, List.map_append]
  simp [h]
theorem grL_len (xs : List Record) (rs : List Int) (k : Nat) : (grL xs rs k).length = k := by unfold grL; simp
theorem grN_len (xs : List Record) (rs : List Int) : (grN xs rs).length ≤ 4 := by
  unfold grN
  split
  · rw [grL_len]; exact Nat.le_refl _
  · exact Nat.zero_le _
theorem survRules_len {rs : List Int} (h : survRules rs = true) : rs.length = 4 := by
  unfold survRules at h
  simp only [Bool.and_eq_true, beq_iff_eq] at h
  exact h.1

set_option maxHeartbeats 400000 in
set_option maxRecDepth 20000 in
theorem impl_GoldenRecord (v u : Value) (xs : List Record) (rs : List Int) (w : World) (h : Sl recordR w v xs) (k : Sl intR w u rs) (M : ML w) :
    Calls Tryz.prog 6 #[v, u] w fun e w2 => ∃ v2 F, e = .returned (.tuple #[v2, .bool (grOk xs rs)]) ∧ OwnSl strO w2 v2 (grN xs rs) F ∧ NewF w F ∧ Ext w w2 := by
  obtain ⟨A, cap, rfl, hm⟩ := k.form
  go_enter Tryz.func6, Tryz.ntmps6
  go_wp2_with fail
  refine (impl_goldenRecords _ xs _ h).mono ?_
  rintro e w3 ⟨gv, rfl, hgv0, x3⟩
  have hgv := hgv0.sl (h.mono x3)
  clear hgv0
  obtain ⟨A3, cap3, rfl, hm3⟩ := hgv.form
  by_cases hz : (goldRecs xs).length = 0
  · have hno : grOk xs rs = false := by
      unfold grOk
      by_cases hg : goodRecs xs = true
      · have : ¬ 0 < xs.length := by
          unfold goldRecs at hz
          rw [if_pos hg] at hz
          omega
        simp [this]
      · simp [hg]
    have HN := hid (And.intro hno (grN_no hno))
    have hz' : (((goldRecs xs).length : Nat) : Int) = 0 := by omega
    clear hz hno
    go_wp2
    refine bodyPost_ret (v := .tuple #[.slice none 0 0, .bool false]) (by simp [results, Tryz.results6, go_sem]) rfl ?_
    obtain ⟨F, o, n1, n2⟩ := (Bld.nil (R := strO) w3 w.heap.size 9).done
    exact ⟨_, F, by rw [HN.out.1], by rw [HN.out.2]; exact o, ⟨n1, n2⟩, x3⟩
  · have hz' : ((((goldRecs xs).length : Nat) : Int) == 0) = false := by rw [beq_eq_false_iff_ne]; omega
    have HG : Hid (goodRecs xs = true ∧ 0 < xs.length) := by
      unfold goldRecs at hz
      split at hz
      · rename_i hg; exact hid ⟨hg, by omega⟩
      · exact absurd rfl hz
    clear hz
    go_wp2_with fail
    refine (impl_AreSurvivorRules _ rs _ (k.mono x3)).mono ?_
    rintro e w4 ⟨rfl, x4⟩
    cases hs : survRules rs with
    | false =>
      have hno : grOk xs rs = false := by unfold grOk; rw [hs, Bool.and_false]
      have HN := hid (And.intro hno (grN_no hno))
      clear hs hno
      go_wp2
      refine bodyPost_ret (v := .tuple #[.slice none 0 0, .bool false]) (by simp [results, Tryz.results6, go_sem]) rfl ?_
      obtain ⟨F, o, n1, n2⟩ := (Bld.nil (R := strO) w4 w.heap.size 9).done
      exact ⟨_, F, by rw [HN.out.1], by rw [HN.out.2]; exact o, ⟨n1, n2⟩, x3.trans x4⟩
    | true =>
      have hyes : grOk xs rs = true := by unfold grOk; rw [hs, HG.out.1, decide_eq_true HG.out.2]; rfl
      have HN := hid (And.intro hyes (grN_yes hyes))
      have HL := hid (survRules_len hs)
      clear hs hyes hz'
      go_wp2
      go_loopw [6, 20] (fun c i wr => ∃ (j : Nat), j ≤ rs.length ∧ i = .int .i64 j ∧ Bld strO wr w.heap.size 9 c (grL xs rs j) [] ∧ Ext w wr) (fun _ i _ => rs.length - (intOf i).toNat)
      case atStart => exact ⟨0, Nat.zero_le _, rfl, Bld.nil w4 w.heap.size _, x3.trans x4⟩
      case round =>
        obtain ⟨j, hj, rfl, hB, hx⟩ := hrel
        by_cases hlt : j < rs.length
        · obtain ⟨b, off, rfl, hI, hc0⟩ := k.int hlt
          have hc := hx.cell hc0
          have HS := hid (show (gfN xs (j : Nat) rs[j]).size ≤ maxLen by have := gfN_size xs (j : Nat) rs[j]; unfold maxLen; omega)
          have hlen : (grL xs rs j).length ≤ 4 := by rw [grL_len]; have := HL.out; omega
          have hj64 : I64 ((j : Nat) : Int) := by have := HL.out; unfold I64; omega
          clear hc0
          go_wp2_with fail
          refine (impl_GoldenField _ xs (j : Nat) rs[j] _ (h.mono hx) hj64 hI (M.mono hx)).mono ?_
          rintro e w5 ⟨rfl, x5⟩
          have hB2 := hB.ext x5
          have hbs := (hx.trans x5).size
          go_wp2_with (at_builtin; refine wpList_app1 elemStrG (by decide) rfl _ _ rfl hB2 rfl w5.heap.size 1 rfl rfl (one_strG _) (own_strG _ (gfN xs (j : Nat) rs[j]) HS.out) fresh_nil (by omega) (by decide) hbs ?_; intro v9 w9 hB9 hE9)
          go_roundw
          case rel => exact ⟨j + 1, by omega, by go_num, by rw [grL_step hlt]; exact hB9, hE9 _ (Nat.le_refl _) (hx.trans x5)⟩
          case measure => simp [intOf]; omega
        · have ej : Hid (j = 4) := hid (by have := HL.out; omega)
          obtain ⟨F, o, n1, n2⟩ := hB.done
          obtain ⟨A9, cap9, e9, _⟩ := o.form
          subst e9
          have HO := hid o
          clear o hB
          go_wp2
          refine bodyPost_ret (v := .tuple #[.slice A9 (grL xs rs j).length cap9, .bool true]) (by simp [results, Tryz.results6, go_sem]) rfl ?_
          refine ⟨_, F, by rw [HN.out.1], ?_, ⟨n1, n2⟩, hx⟩
          rw [HN.out.2]
          have := HO.out
          rw [ej.out] at this ⊢
          exact this

set_option maxHeartbeats 400000 in
set_option maxRecDepth 20000 in
theorem spec_GoldenRecord (v u : Value) (xs : List Record) (rs : List Int) (w : World) (h : Sl recordR w v xs) (k : Sl intR w u rs) :
    Calls Tryz.prog 7 #[v, u] w fun e w2 => ∃ v2 F, e = .returned (.tuple #[v2, .bool (grOk xs rs)]) ∧ OwnSl strO w2 v2 (grN xs rs) F ∧ NewF w F ∧ Ext w w2 := by
  obtain ⟨A, cap, rfl, hm⟩ := k.form
  obtain ⟨A3, cap3, rfl, hm3⟩ := h.form
  have hend : ∀ w9 : World, Ext w w9 → grOk xs rs = false → ∃ v2 F, Ending.returned (.tuple #[.slice (some ⟨w9.heap.size, 0, none⟩) 0 0, .bool false]) = Ending.returned (.tuple #[v2, .bool (grOk xs rs)]) ∧ OwnSl strO (w9.alloc (.cells #[] 9)) v2 (grN xs rs) F ∧ NewF w F ∧ Ext w (w9.alloc (.cells #[] 9)) := fun w9 x9 hno => by
    obtain ⟨F, o, n1, n2⟩ := (Bld.lit (R := strO) w9 x9.size 9).done
    exact ⟨_, F, by rw [hno], by rw [grN_no hno]; exact o, ⟨n1, n2⟩, x9.alloc _⟩
  have HEND := hid hend
  clear hend
  go_enter Tryz.func7, Tryz.ntmps7
  go_wp2_with fail
  refine (spec_l13Good _ xs _ h).mono ?_
  rintro e w3 ⟨rfl, x3⟩
  cases hg : goodRecs xs with
  | false =>
    have hno : Hid (grOk xs rs = false) := hid (by unfold grOk; rw [hg]; rfl)
    clear hg
    go_wp2
    refine bodyPost_ret (v := .tuple #[.slice (some ⟨w3.heap.size, 0, none⟩) 0 0, .bool false]) (by simp [results, Tryz.results7, go_sem]) rfl ?_
    exact HEND.out _ x3 hno.out
  | true =>
    have HG := hid hg
    clear hg
    by_cases hz : xs.length = 0
    · have hno : Hid (grOk xs rs = false) := hid (by unfold grOk; simp [hz])
      have hz' : ((xs.length : Nat) : Int) = 0 := by omega
      clear hz
      go_wp2
      refine bodyPost_ret (v := .tuple #[.slice (some ⟨w3.heap.size, 0, none⟩) 0 0, .bool false]) (by simp [results, Tryz.results7, go_sem]) rfl ?_
      exact HEND.out _ x3 hno.out
    · have hz' : (((xs.length : Nat) : Int) == 0) = false := by rw [beq_eq_false_iff_ne]; omega
      have HP := hid (show 0 < xs.length by omega)
      clear hz
      go_wp2_with fail
      refine (spec_AreSurvivorRules _ rs _ (k.mono x3)).mono ?_
      rintro e w4 ⟨rfl, x4⟩
      cases hs : survRules rs with
      | false =>
        have hno : Hid (grOk xs rs = false) := hid (by unfold grOk; rw [hs, Bool.and_false])
        clear hs
        go_wp2
        refine bodyPost_ret (v := .tuple #[.slice (some ⟨w4.heap.size, 0, none⟩) 0 0, .bool false]) (by simp [results, Tryz.results7, go_sem]) rfl ?_
        exact HEND.out _ (x3.trans x4) hno.out
      | true =>
        have hyes : grOk xs rs = true := by unfold grOk; rw [hs, HG.out, decide_eq_true HP.out]; rfl
        have HN := hid (And.intro hyes (grN_yes hyes))
        have HL := hid (survRules_len hs)
        clear hs hyes hz'
        go_wp2
        go_loopw [6, 7] (fun c i wr => ∃ (j : Nat), j ≤ 4 ∧ i = .int .i64 j ∧ Bld strO wr w.heap.size 9 c (grL xs rs j) [] ∧ Ext w wr) (fun _ i _ => 4 - (intOf i).toNat)
        case atStart => exact ⟨0, Nat.zero_le _, rfl, Bld.lit w4 (x3.trans x4).size _, (x3.trans x4).alloc _⟩
        case round =>
          obtain ⟨j, hj, rfl, hB, hx⟩ := hrel
          by_cases hlt4 : j < 4
          · have hlt : j < rs.length := by rw [HL.out]; exact hlt4
            obtain ⟨b, off, rfl, hI, hc0⟩ := k.int hlt
            have hc := hx.cell hc0
            have HS := hid (show (gfN xs (j : Nat) rs[j]).size ≤ maxLen by have := gfN_size xs (j : Nat) rs[j]; unfold maxLen; omega)
            have hlen : (grL xs rs j).length ≤ 4 := by rw [grL_len]; omega
            have hj64 : I64 ((j : Nat) : Int) := by unfold I64; omega
            clear hc0
            go_wp2_with fail
            refine (spec_GoldenField _ xs (j : Nat) rs[j] _ (h.mono hx) hj64 hI).mono ?_
            rintro e w5 ⟨rfl, x5⟩
            have hB2 := hB.ext x5
            have hbs := (hx.trans x5).size
            go_wp2_with (at_builtin; refine wpList_app1 elemStrG (by decide) rfl _ _ rfl hB2 rfl w5.heap.size 1 rfl rfl (one_strG _) (own_strG _ (gfN xs (j : Nat) rs[j]) HS.out) fresh_nil (by omega) (by decide) hbs ?_; intro v9 w9 hB9 hE9)
            go_roundw
            case rel => exact ⟨j + 1, by omega, by go_num, by rw [grL_step hlt]; exact hB9, hE9 _ (Nat.le_refl _) (hx.trans x5)⟩
            case measure => simp [intOf]; omega
          · have ej : Hid (j = 4) := hid (by omega)
            obtain ⟨F, o, n1, n2⟩ := hB.done
            obtain ⟨A9, cap9, e9, _⟩ := o.form
            subst e9
            have HO := hid o
            clear o hB
            go_wp2
            refine bodyPost_ret (v := .tuple #[.slice A9 (grL xs rs j).length cap9, .bool true]) (by simp [results, Tryz.results7, go_sem]) rfl ?_
            refine ⟨_, F, by rw [HN.out.1], ?_, ⟨n1, n2⟩, hx⟩
            rw [HN.out.2]
            have := HO.out
            rw [ej.out] at this ⊢
            exact this
end Go.Proofs.YtddjefbdekinbaaGreatDoor

namespace Go.Proofs.YtddjefbdekinbaaGreatDoor
open Go.RowKit

theorem bless_trans : ∀ {x y z : List UInt8}, Op.bytesLess x y = true → Op.bytesLess y z = true → Op.bytesLess x z = true
  | [], [], _, h, _ => by simp [Op.bytesLess] at h
  | _ :: _, [], _, h, _ => by simp [Op.bytesLess] at h
  | _, _ :: _, [], _, k => by simp [Op.bytesLess] at k
  | [], _ :: _, _ :: _, _, _ => by simp [Op.bytesLess]
  | a :: x, b :: y, c :: z, h, k => by
    have ih := @bless_trans x y z
    simp only [Op.bytesLess, Bool.or_eq_true, Bool.and_eq_true, decide_eq_true_eq, beq_iff_eq] at h k ⊢
    rcases h with h | ⟨h, h2⟩
    · rcases k with k | ⟨k, k2⟩
      · exact .inl (UInt8.lt_iff_toNat_lt.2 (Nat.lt_trans (UInt8.lt_iff_toNat_lt.1 h) (UInt8.lt_iff_toNat_lt.1 k)))
      · subst k; exact .inl h
    · subst h
      rcases k with k | ⟨k, k2⟩
      · exact .inl k
      · exact .inr ⟨k, ih h2 k2⟩
theorem goodRecs_perm {xs ys : List Record} (h : xs.Perm ys) : goodRecs xs = goodRecs ys := by
  unfold goodRecs
  rw [h.length_eq]
  congr 1
  rw [Bool.eq_iff_iff, List.all_eq_true, List.all_eq_true]
  exact ⟨fun k x hx => k x (h.mem_iff.2 hx), fun k x hx => k x (h.mem_iff.1 hx)⟩
theorem foldl_perm {α β : Type} {f : β → α → β} (hf : ∀ b x y, f (f b x) y = f (f b y) x) {xs ys : List α} (h : xs.Perm ys) : ∀ b, xs.foldl f b = ys.foldl f b := by
  induction h with
  | nil => intro b; rfl
  | cons x _ ih => intro b; exact ih _
  | swap x y l => intro b; simp only [List.foldl_cons]; rw [hf]
  | trans _ _ h1 h2 => intro b; rw [h1, h2]
theorem supC_perm (f : Nat) (s : ByteArray) {xs ys : List Record} (h : xs.Perm ys) : supC f s xs = supC f s ys := by
  unfold supC
  refine foldl_perm (fun b x y => ?_) h 0
  split <;> split <;> rfl
theorem rkN_perm {xs ys : List Record} (h : xs.Perm ys) (q : Nat) (rule : Int) (r : Record) : rkN xs q rule r = rkN ys q rule r := by
  unfold rkN
  rw [supC_perm q _ h]
/-- what the best value is -/
def BestG (q : Nat) (rk : Record → Int) (xs : List Record) (b : ByteArray × Int) : Prop :=
  (b = (⟨#[]⟩, -1) ∧ ∀ r ∈ xs, normS (fldAt q r) = ⟨#[]⟩) ∨
  (∃ r ∈ xs, ¬ normS (fldAt q r) = ⟨#[]⟩ ∧ b = (fldAt q r, rk r) ∧ ∀ r' ∈ xs, ¬ normS (fldAt q r') = ⟨#[]⟩ → rk r' ≤ rk r ∧ (rk r' = rk r → Op.bytesLess (fldAt q r').toList (fldAt q r).toList = false))
theorem bestG_one {q : Nat} {rk : Record → Int} {xs ys : List Record} (hm : ∀ r, r ∈ xs ↔ r ∈ ys) {b c : ByteArray × Int} (h : BestG q rk xs b) (k : BestG q rk ys c) : b = c := by
  rcases h with ⟨rfl, h⟩ | ⟨r, hr, hn, rfl, h⟩
  · rcases k with ⟨rfl, k⟩ | ⟨r', hr', hn', rfl, k⟩
    · rfl
    · exact absurd (h r' ((hm r').2 hr')) hn'
  · rcases k with ⟨rfl, k⟩ | ⟨r', hr', hn', rfl, k⟩
    · exact absurd (k r ((hm r).1 hr)) hn
    · obtain ⟨h1, h2⟩ := h r' ((hm r').2 hr') hn'
      obtain ⟨k1, k2⟩ := k r ((hm r).1 hr) hn
      have e : rk r = rk r' := by omega
      have e2 : fldAt q r = fldAt q r' := by
        apply Classical.byContradiction
        intro hne
        have h3 := h2 e.symm
        have h4 := bless_tri h3 fun e => hne (toList_inj2 e.symm)
        rw [k2 e] at h4
        cases h4
      rw [e, e2]
theorem bestG_step {zs : List Record} {q : Nat} {rule : Int} {xs : List Record} {r : Record} {b : ByteArray × Int} (h0 : -1 < rkN zs q rule r) (h : BestG q (rkN zs q rule) xs b) : BestG q (rkN zs q rule) (xs ++ [r]) (gfStep zs q rule b r) := by
  by_cases hn : normS (fldAt q r) = ⟨#[]⟩
  · rw [gf_skip hn]
    rcases h with ⟨rfl, h⟩ | ⟨r', hr', hn', rfl, h⟩
    · exact .inl ⟨rfl, fun x hx => by
        rcases List.mem_append.1 hx with hx | hx
        · exact h x hx
        · rw [List.mem_singleton] at hx; rw [hx]; exact hn⟩
    · refine .inr ⟨r', List.mem_append_left _ hr', hn', rfl, fun x hx hxn => ?_⟩
      rcases List.mem_append.1 hx with hx | hx
      · exact h x hx hxn
      · rw [List.mem_singleton] at hx; rw [hx] at hxn; exact absurd hn hxn
  · have hmem : r ∈ xs ++ [r] := List.mem_append_right _ (List.mem_singleton_self r)
    rcases h with ⟨rfl, h⟩ | ⟨r', hr', hn', rfl, h⟩
    · rw [gf_more hn h0]
      refine .inr ⟨r, hmem, hn, rfl, fun x hx hxn => ?_⟩
      rcases List.mem_append.1 hx with hx | hx
      · exact absurd (h x hx) hxn
      · rw [List.mem_singleton] at hx; rw [hx]; exact ⟨Int.le_refl _, fun _ => bless_irr _⟩
    · by_cases k1 : rkN zs q rule r' < rkN zs q rule r
      · rw [gf_more hn k1]
        refine .inr ⟨r, hmem, hn, rfl, fun x hx hxn => ?_⟩
        rcases List.mem_append.1 hx with hx | hx
        · have := (h x hx hxn).1
          exact ⟨by omega, fun e => by omega⟩
        · rw [List.mem_singleton] at hx; rw [hx]; exact ⟨Int.le_refl _, fun _ => bless_irr _⟩
      · by_cases k2 : rkN zs q rule r = rkN zs q rule r' ∧ Op.bytesLess (fldAt q r).toList (fldAt q r').toList = true
        · rw [gf_less hn k2.1 k2.2]
          refine .inr ⟨r, hmem, hn, rfl, fun x hx hxn => ?_⟩
          rcases List.mem_append.1 hx with hx | hx
          · obtain ⟨h1, h2⟩ := h x hx hxn
            refine ⟨by omega, fun e => ?_⟩
            cases hb : Op.bytesLess (fldAt q x).toList (fldAt q r).toList with
            | false => rfl
            | true =>
              have h3 := bless_trans hb k2.2
              rw [h2 (by omega)] at h3
              cases h3
          · rw [List.mem_singleton] at hx; rw [hx]; exact ⟨Int.le_refl _, fun _ => bless_irr _⟩
        · rw [gf_keep k1 k2]
          refine .inr ⟨r', List.mem_append_left _ hr', hn', rfl, fun x hx hxn => ?_⟩
          rcases List.mem_append.1 hx with hx | hx
          · exact h x hx hxn
          · rw [List.mem_singleton] at hx
            rw [hx]
            refine ⟨by omega, fun e => ?_⟩
            cases hb : Op.bytesLess (fldAt q r).toList (fldAt q r').toList with
            | false => rfl
            | true => exact absurd ⟨e, hb⟩ k2
theorem bestG_all {zs : List Record} {q : Nat} {rule : Int} (l : List Record) (h0 : ∀ r ∈ l, -1 < rkN zs q rule r) : BestG q (rkN zs q rule) l (gfF zs q rule l) := by
  have key : ∀ k, k ≤ l.length → BestG q (rkN zs q rule) (l.take k) (gfF zs q rule (l.take k)) := fun k => by
    induction k with
    | zero => intro _; exact .inl ⟨rfl, fun r hr => by simp at hr⟩
    | succ k ih =>
      intro hk
      rw [gfF_step zs q rule l k hk]
      have := bestG_step (r := l[k]) (h0 _ (List.getElem_mem _)) (ih (by omega))
      rwa [← List.take_succ_eq_append_getElem] at this
  have := key l.length (Nat.le_refl _)
  rwa [List.take_length] at this
theorem gfN_perm {xs ys : List Record} (h : xs.Perm ys) (f rule : Int) : gfN xs f rule = gfN ys f rule := by
  by_cases hc : goodRecs xs = true ∧ inB f 0 3 = true ∧ inB rule 1 4 = true
  · have hcy : goodRecs ys = true := by rw [← goodRecs_perm h]; exact hc.1
    rw [gfN_yes hc.1 hc.2.1 hc.2.2, gfN_yes hcy hc.2.1 hc.2.2]
    have hq := inB_cases hc.2.1
    have h1 := bestG_all (zs := xs) (q := f.toNat) (rule := rule) xs fun r hr => (rkN_64 xs _ rule r (goodRecs_at hc.1 hr) (by omega) (goodRecs_len hc.1)).1
    have h2 := bestG_all (zs := ys) (q := f.toNat) (rule := rule) ys fun r hr => (rkN_64 ys _ rule r (goodRecs_at hcy hr) (by omega) (goodRecs_len hcy)).1
    rw [show rkN ys f.toNat rule = rkN xs f.toNat rule from funext fun r => (rkN_perm h _ _ r).symm] at h2
    rw [bestG_one (fun r => h.mem_iff) h1 h2]
  · rw [gfN_no hc, gfN_no (by rw [← goodRecs_perm h]; exact hc)]
/-- a golden record does not hang on the order of the records -/
theorem grN_perm {xs ys : List Record} (h : xs.Perm ys) (rs : List Int) : grN xs rs = grN ys rs := by
  have e : grOk xs rs = grOk ys rs := by unfold grOk; rw [goodRecs_perm h, h.length_eq]
  unfold grN grL
  rw [e]
  simp only [gfN_perm h]

theorem norm_nil : normS ⟨#[]⟩ = ⟨#[]⟩ := by
  have h := norm_size ⟨#[]⟩
  have h2 : (⟨#[]⟩ : ByteArray).size = 0 := rfl
  have h3 : (normS ⟨#[]⟩).size = 0 := by omega
  exact ByteArray.ext (Array.eq_empty_of_size_eq_zero h3)
theorem supC_split (f : Nat) (s : ByteArray) : ∀ (xs : List Record) (n : Nat), (xs.foldl (fun n r => open Classical in if normS (fldAt f r) = normS s then n + 1 else n) n) = n + (xs.filter fun r => open Classical in decide (normS (fldAt f r) = normS s)).length
  | [], n => by simp
  | x :: xs, n => by
    simp only [List.foldl_cons]
    rw [supC_split f s xs]
    by_cases h : normS (fldAt f x) = normS s
    · rw [if_pos h, List.filter_cons_of_pos (by simp [h]), List.length_cons]; omega
    · rw [if_neg h, List.filter_cons_of_neg (by simp [h])]
theorem supC_filter (f : Nat) (s : ByteArray) (xs : List Record) : supC f s xs = (xs.filter fun r => open Classical in decide (normS (fldAt f r) = normS s)).length := by
  have := supC_split f s xs 0
  unfold supC
  rw [this]
  omega
theorem supC_pos {f : Nat} {xs : List Record} {r : Record} (h : r ∈ xs) : 1 ≤ supC f (fldAt f r) xs := by
  rw [supC_filter]
  exact List.length_pos_of_mem (List.mem_filter.2 ⟨h, by simp⟩)
theorem supC_two {f : Nat} {a b : ByteArray} (hab : ¬ normS a = normS b) : ∀ {xs : List Record}, (∀ r ∈ xs, normS (fldAt f r) = normS a ∨ normS (fldAt f r) = normS b) → supC f a xs + supC f b xs = xs.length := by
  intro xs h
  rw [supC_filter, supC_filter]
  induction xs with
  | nil => rfl
  | cons x xs ih =>
    have ih := ih fun r hr => h r (List.mem_cons_of_mem x hr)
    rcases h x (List.mem_cons_self ..) with e | e
    · rw [List.filter_cons_of_pos (by simp [e]), List.filter_cons_of_neg (by simp [e, hab]), List.length_cons, List.length_cons]; omega
    · rw [List.filter_cons_of_neg (by simp [e]; exact fun h => hab h.symm), List.filter_cons_of_pos (by simp [e]), List.length_cons, List.length_cons]; omega
theorem unF_all (f : Nat) : ∀ (xs : List Record) (s t : ByteArray), xs.foldl (unStep f) (some s) = some t → (s = ⟨#[]⟩ ∨ s = t) ∧ ∀ r ∈ xs, normS (fldAt f r) = ⟨#[]⟩ ∨ normS (fldAt f r) = t
  | [], s, t, h => by
    injection h with h
    exact ⟨.inr h, fun _ h => by cases h⟩
  | x :: xs, s, t, h => by
    simp only [List.foldl_cons] at h
    by_cases h1 : normS (fldAt f x) = ⟨#[]⟩
    · rw [un_empty h1] at h
      obtain ⟨k1, k2⟩ := unF_all f xs s t h
      exact ⟨k1, fun r hr => by
        rcases List.mem_cons.1 hr with rfl | hr
        · exact .inl h1
        · exact k2 r hr⟩
    · by_cases h2 : s = ⟨#[]⟩
      · rw [un_first h2] at h
        obtain ⟨k1, k2⟩ := unF_all f xs _ t h
        refine ⟨.inl h2, fun r hr => ?_⟩
        rcases List.mem_cons.1 hr with rfl | hr
        · rcases k1 with k1 | k1
          · exact absurd k1 h1
          · exact .inr k1
        · exact k2 r hr
      · by_cases h3 : normS (fldAt f x) = s
        · rw [un_same h3] at h
          obtain ⟨k1, k2⟩ := unF_all f xs s t h
          refine ⟨k1, fun r hr => ?_⟩
          rcases List.mem_cons.1 hr with rfl | hr
          · rcases k1 with k1 | k1
            · exact absurd k1 h2
            · exact .inr (h3.trans k1)
          · exact k2 r hr
        · rw [un_two h1 h2 h3, un_none] at h
          cases h
theorem srcOf_some {f : Nat} {s : ByteArray} {xs : List Record} (h : ∃ r ∈ xs, fldAt f r = s) : ∃ r ∈ xs, srcOf f s xs = some r := by
  have key : ∀ (l : List Record) (b : Option Record), (∀ r, b = some r → r ∈ xs) → (∀ r ∈ l, r ∈ xs) → (b ≠ none ∨ ∃ r ∈ l, fldAt f r = s) → ∃ r ∈ xs, l.foldl (srcStep f s) b = some r := by
    intro l
    induction l with
    | nil =>
      intro b hb _ h
      rcases h with h | ⟨r, hr, _⟩
      · cases b with
        | none => exact absurd rfl h
        | some r => exact ⟨r, hb r rfl, rfl⟩
      · cases hr
    | cons x l ih =>
      intro b hb hl h
      simp only [List.foldl_cons]
      have hx := hl x (List.mem_cons_self ..)
      have hl2 : ∀ r ∈ l, r ∈ xs := fun r hr => hl r (List.mem_cons_of_mem x hr)
      by_cases he : fldAt f x = s
      · cases b with
        | none =>
          rw [src_first he]
          exact ih _ (fun r e => by injection e with e; rw [← e]; exact hx) hl2 (.inl (by simp))
        | some b =>
          by_cases hc : cmpR x b < 0
          · rw [src_less he hc]
            exact ih _ (fun r e => by injection e with e; rw [← e]; exact hx) hl2 (.inl (by simp))
          · rw [src_more he hc]
            exact ih _ hb hl2 (.inl (by simp))
      · rw [src_no he]
        refine ih b hb hl2 ?_
        rcases h with h | ⟨r, hr, e⟩
        · exact .inl h
        · rcases List.mem_cons.1 hr with rfl | hr
          · exact absurd e he
          · exact .inr ⟨r, hr, e⟩
  exact key xs none (fun r e => by cases e) (fun r hr => hr) (.inr h)
theorem orgN_ne {s k : Int} (h : 0 ≤ s ∧ s ≤ 3) : 0 < (orgN s k).size := by
  unfold orgN
  rw [ByteArray.size_append]
  have : (letter s).size = 1 := rfl
  omega
/-- what holds of each field of a golden record -/
theorem field_facts {xs : List Record} {rs : List Int} (h : grOk xs rs = true) {q : Nat} (hq : q < 4) :
    ((∀ r ∈ xs, normS (fldAt q r) = ⟨#[]⟩) ↔ gfN xs q (rs.getD q 0) = ⟨#[]⟩) ∧
    (¬ gfN xs q (rs.getD q 0) = ⟨#[]⟩ → 1 ≤ fsupN xs q (gfN xs q (rs.getD q 0)) ∧ ¬ srcN xs q (gfN xs q (rs.getD q 0)) = ⟨#[]⟩ ∧
      (unN xs q = true → fsupN xs q (gfN xs q (rs.getD q 0)) + fsupN xs q ⟨#[]⟩ = xs.length)) := by
  unfold grOk at h
  simp only [Bool.and_eq_true] at h
  obtain ⟨⟨hg, _⟩, hs⟩ := h
  have hsl := survRules_len hs
  have hqb : inB (q : Int) 0 3 = true := by unfold inB; rw [decide_eq_true_eq]; omega
  have hrb : inB (rs.getD q 0) 1 4 = true := by
    rw [List.getD_eq_getElem?_getD, List.getElem?_eq_getElem (by omega)]
    unfold survRules at hs
    rw [Bool.and_eq_true] at hs
    exact List.all_eq_true.1 hs.2 _ (List.getElem_mem _)
  rw [gfN_yes hg hqb hrb, show ((q : Nat) : Int).toNat = q from rfl]
  have hb := bestG_all (zs := xs) (q := q) (rule := rs.getD q 0) xs fun r hr => (rkN_64 xs _ _ r (goodRecs_at hg hr) (by omega) (goodRecs_len hg)).1
  rcases hb with ⟨e, hall⟩ | ⟨r, hr, hn, e, _⟩
  · rw [e]
    exact ⟨⟨fun _ => rfl, fun _ => hall⟩, fun hne => absurd rfl hne⟩
  · rw [e]
    have hne : ¬ fldAt q r = ⟨#[]⟩ := fun e => hn (by rw [e]; exact norm_nil)
    refine ⟨⟨fun ha => absurd (ha r hr) hn, fun e => absurd e hne⟩, fun _ => ⟨?_, ?_, fun hu => ?_⟩⟩
    · rw [fsupN_yes hg hqb]
      have := supC_pos (f := q) hr
      show (1 : Int) ≤ ((supC q (fldAt q r) xs : Nat) : Int)
      omega
    · rw [srcN_yes hg hqb]
      obtain ⟨r2, hr2, e2⟩ := srcOf_some (f := q) (s := fldAt q r) ⟨r, hr, rfl⟩
      have ok2 := goodRecs_at hg hr2
      show ¬ srcT (srcOf q (fldAt q r) xs) = ⟨#[]⟩
      rw [e2]
      show ¬ recN r2 = ⟨#[]⟩
      unfold recN
      rw [if_pos ok2]
      intro e3
      have h9 := orgN_ne (k := r2.key) (okRec_in ok2).1
      rw [e3] at h9
      exact absurd h9 (by decide)
    · unfold unN at hu
      rw [hg, hqb] at hu
      simp only [Bool.true_and] at hu
      obtain ⟨t, ht⟩ := Option.isSome_iff_exists.1 hu
      have ha := (unF_all q xs _ t ht).2
      have htr : normS (fldAt q r) = t := (ha r hr).resolve_left hn
      rw [fsupN_yes hg hqb, fsupN_yes hg hqb]
      have := supC_two (f := q) (a := fldAt q r) (b := ⟨#[]⟩) (by rw [norm_nil]; exact hn) (xs := xs) fun x hx => by
        rw [norm_nil, htr]
        exact (ha x hx).symm
      show ((supC q (fldAt q r) xs : Nat) : Int) + ((supC q ⟨#[]⟩ xs : Nat) : Int) = _
      omega
end Go.Proofs.YtddjefbdekinbaaGreatDoor
