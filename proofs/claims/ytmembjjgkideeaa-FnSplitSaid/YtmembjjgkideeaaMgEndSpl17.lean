/-
  WALKS: l28Group, l28Join, l28Apart (the reference's).
-/
import Derived.Test.YtmembjjgkideeaaMgEndSpl14
import Derived.Test.YtmembjjgkideeaaMgEndSpl0
import Derived.Test.YtmembjjgkideeaaMgEndSpl9

namespace Go.Proofs.Ytmembjjgkideeaa
open Go.RowKit

/-- elements that read in an older world, read in a younger one -/
theorem Bld.later {α : Type} {R : Rep α} {w1 w1' w w2 : World} {base : Nat} {e : TypeId} {v : Value} {xs : List α} (h : Bld (atP R (R.rd w1)) w base e v xs []) (x : Ext w w2) (y : Ext w1 w1') : Bld (atP R (R.rd w1')) w2 base e v xs [] :=
  h.moveP (fun b hb => x.block (h.lt.2 b hb).1) fun _ _ hr => R.mono y hr
/-- shared rows, and one new row -/
theorem Bld.orP {α : Type} {R : Rep α} {p q : List Value → α → Prop} {w w2 : World} {base : Nat} {e : TypeId} {v : Value} {xs : List α} (h : Bld (atP R p) w base e v xs []) (x : Ext w w2) : Bld (atP R fun cs y => p cs y ∨ q cs y) w2 base e v xs [] :=
  h.moveP (fun b hb => x.block (h.lt.2 b hb).1) fun _ _ hr => .inl hr
set_option maxHeartbeats 400000 in
theorem spec_l28Group (v : Value) (g : List (List Int)) (x : Int) (w : World) (h : Sl (slR intR) w v g) :
    Calls Try.prog 52 #[v, .int .i64 x] w fun e w2 => e = .returned (.int .i64 (grIx g x)) ∧ w = w2 := by
  obtain ⟨A, cap, rfl, hm⟩ := h.form
  go_enter Try.func52, Try.ntmps52
  go_wp2
  go_loop [5] (fun i => ∃ k : Nat, k ≤ g.length ∧ i = .int .i64 k ∧ ∀ y ∈ g.take k, hasI x y = false) (fun i => g.length - (intOf i).toNat)
  case atStart => exact ⟨0, Nat.zero_le _, rfl, by simp⟩
  case round =>
    obtain ⟨k, hk, rfl, hz⟩ := hrel
    have HZ := hid hz
    clear hz
    by_cases hlt : k < g.length
    · obtain ⟨b, off, A2, cap2, rfl, hsl, hc⟩ := h.sl hlt
      have hn := idxI_nn x g[k]
      by_cases h0 : 0 ≤ idxI x g[k]
      · have H0 := hid (show hasI x g[k] = true by rw [← hn]; simp [h0])
        clear hn
        go_wp2_with (go_at_call 79; refine (spec_l24Find _ g[k] _ _ hsl).mono ?_; rintro e w2 ⟨rfl, rfl⟩)
        go_ret
        exact ⟨ret_int (idxF_at (fun gr => hasI x gr) g k hlt HZ.out H0.out).symm, rfl⟩
      · have H0 := hid (show hasI x g[k] = false by rw [← hn]; simp; omega)
        have h0' : idxI x g[k] < 0 := by omega
        clear hn h0
        go_wp2_with (go_at_call 79; refine (spec_l24Find _ g[k] _ _ hsl).mono ?_; rintro e w2 ⟨rfl, rfl⟩)
        go_round
        case rel => exact ⟨k + 1, by omega, by go_num, take_snoc_all _ g k hlt HZ.out H0.out⟩
        case measure => simp [intOf]; omega
    · go_wp2
      go_ret
      exact ⟨ret_int (idxF_all _ g k hlt HZ.out).symm, rfl⟩
theorem grIx_bd (g : List (List Int)) (x : Int) : -1 ≤ grIx g x ∧ grIx g x < g.length := by
  rcases grIx_cases g x with ⟨e, _⟩ | ⟨j, hj, e, _⟩ <;> omega

set_option maxHeartbeats 400000 in
theorem spec_l28Apart (v u : Value) (g : List (List Int)) (c : List Verdict) (w : World) (h : Sl (slR intR) w v g) (h2 : Sl verdictR w u c) :
    Calls Try.prog 30 #[v, u] w fun e w2 => e = .returned (.bool (apartG g c)) ∧ w = w2 := by
  obtain ⟨A, cap, rfl, hm⟩ := h2.form
  go_enter Try.func30, Try.ntmps30
  go_wp2
  go_loop [5] (fun i => ∃ k : Nat, k ≤ c.length ∧ i = .int .i64 k ∧ ∀ y ∈ c.take k, (!(decide (0 ≤ grIx g y.a) && grIx g y.a == grIx g y.b)) = true) (fun i => c.length - (intOf i).toNat)
  case atStart => exact ⟨0, Nat.zero_le _, rfl, by simp⟩
  case round =>
    obtain ⟨k, hk, rfl, hz⟩ := hrel
    have HZ := hid hz
    clear hz
    by_cases hlt : k < c.length
    · obtain ⟨b, off, eA, hok, c0, c1, c2, c3⟩ := h2.verdict hlt
      subst eA
      have HA := hid (spec_l28Group v g c[k].a w h)
      have HB := hid (spec_l28Group v g c[k].b w h)
      have HN := hid (show ∀ t, (!(decide (0 ≤ grIx g c[k].a) && grIx g c[k].a == grIx g c[k].b)) = t → apartG g c = true → t = true from fun t e h => by rw [← e]; exact List.all_eq_true.1 h c[k] (List.getElem_mem hlt))
      obtain ⟨p, hp⟩ : ∃ p, p = grIx g c[k].a := ⟨_, rfl⟩
      obtain ⟨q, hq⟩ : ∃ q, q = grIx g c[k].b := ⟨_, rfl⟩
      rw [← hp] at HA HN
      rw [← hq] at HB HN
      have HP := hid (And.intro hp hq)
      clear hp hq hok
      by_cases h0 : 0 ≤ p
      · by_cases hpq : p = q
        · have e1 : (p == q) = true := by simp [hpq]
          have HF := hid (show apartG g c = false from by
            cases hk : apartG g c with
            | false => rfl
            | true =>
              have h9 := HN.out _ rfl hk
              rw [decide_eq_true h0, e1] at h9
              exact absurd h9 (by decide))
          clear hpq
          go_wp2_with fail
          refine (HA.out).mono ?_
          rintro e w2 ⟨rfl, rfl⟩
          go_wp2_with fail
          refine (HB.out).mono ?_
          rintro e w2 ⟨rfl, rfl⟩
          go_wp2
          go_ret
          exact ⟨ret_bool HF.out.symm, rfl⟩
        · have e1 : (p == q) = false := by simp [hpq]
          have HT2 := hid (show (!(decide (0 ≤ grIx g c[k].a) && grIx g c[k].a == grIx g c[k].b)) = true from by rw [← HP.out.1, ← HP.out.2, e1, Bool.and_false]; rfl)
          clear hpq
          go_wp2_with fail
          refine (HA.out).mono ?_
          rintro e w2 ⟨rfl, rfl⟩
          go_wp2_with fail
          refine (HB.out).mono ?_
          rintro e w2 ⟨rfl, rfl⟩
          go_wp2
          go_round
          case rel => exact ⟨k + 1, by omega, by go_num, fun y hy => by
            rw [List.take_succ_eq_append_getElem hlt] at hy
            rcases List.mem_append.1 hy with hy | hy
            · exact HZ.out y hy
            · rw [List.mem_singleton] at hy; rw [hy]; exact HT2.out⟩
          case measure => simp [intOf]; omega
      · have h0' : p < 0 := by omega
        have HT2 := hid (show (!(decide (0 ≤ grIx g c[k].a) && grIx g c[k].a == grIx g c[k].b)) = true from by rw [← HP.out.1, ← HP.out.2, decide_eq_false h0, Bool.false_and]; rfl)
        clear h0
        go_wp2_with (go_at_call 52; refine (HA.out).mono ?_; rintro e w2 ⟨rfl, rfl⟩)
        go_round
        case rel => exact ⟨k + 1, by omega, by go_num, fun y hy => by
          rw [List.take_succ_eq_append_getElem hlt] at hy
          rcases List.mem_append.1 hy with hy | hy
          · exact HZ.out y hy
          · rw [List.mem_singleton] at hy; rw [hy]; exact HT2.out⟩
        case measure => simp [intOf]; omega
    · go_wp2
      go_ret
      refine ⟨ret_bool ?_, rfl⟩
      have hz := HZ.out
      rw [List.take_of_length_le (by omega)] at hz
      exact (List.all_eq_true.2 hz).symm
theorem getG_at {g : List (List Int)} {n : Nat} (h : n < g.length) : g.getD n [] = g[n] := by rw [List.getD_eq_getElem?_getD, List.getElem?_eq_getElem h]; rfl
theorem keepG_len (g : List (List Int)) (i k : Int) : ∀ n, (keepG g i k n).length ≤ n
  | 0 => Nat.le_refl _
  | n + 1 => by
    have := keepG_len g i k n
    unfold keepG
    split
    · omega
    · rw [List.length_append, List.length_singleton]; omega
theorem keepG_skip {g : List (List Int)} {i k : Int} {n : Nat} (h : (n : Int) = i ∨ (n : Int) = k) : keepG g i k (n + 1) = keepG g i k n := by rw [keepG, if_pos h]
theorem keepG_take {g : List (List Int)} {i k : Int} {n : Nat} (h : ¬ ((n : Int) = i ∨ (n : Int) = k)) (hn : n < g.length) : keepG g i k (n + 1) = keepG g i k n ++ [g[n]] := by
  rw [keepG, if_neg h, List.getD_eq_getElem?_getD, List.getElem?_eq_getElem hn]; rfl

/-- a row of data that a call made, with its blocks among theirs -/
theorem OwnSl.row_ {w : World} {v : Value} {g : List (List Int)} {F : List Nat} (h : OwnSl (slO intO) w v g F) {i : Nat} (hi : i < g.length) :
    ∃ g0 off cap A c F1, v = .slice (some ⟨g0, off, none⟩) g.length cap ∧ w.cell? ⟨g0, off + i, none⟩ = some (.slice A g[i].length c) ∧ OwnSl intO w (.slice A g[i].length c) g[i] F1 ∧ ∀ b ∈ F1, b ∈ F := by
  rcases h with ⟨rfl, _⟩ | ⟨g0, off, cap, cur, e, F2, rfl, hm, hg, rfl, hs, hc⟩
  · simp at hi
  · obtain ⟨c0, c, c1, F0, F1, F3, e0, e1, l0, l1, k0, ⟨u, rfl, ho⟩, k2⟩ := hc.split i hi
    obtain ⟨A, cp, rfl, _⟩ := ho.form
    have hn1 : (slO intO).n = 1 := rfl
    refine ⟨g0, off, cap, A, cp, F1, rfl, ?_, ho, fun b hb => List.mem_cons_of_mem _ (by rw [e1]; exact List.mem_append_right _ (List.mem_append_left _ hb))⟩
    rw [cell_of_row w g0 _ cur e (0, 0) hg]
    have h1 : ((cur.toList.drop off).take (g.length * (slO intO).n))[i]? = some (.slice A g[i].length cp) := by
      rw [e0, List.getElem?_append_right (by rw [l0, hn1]; omega), l0, hn1, show i - i * 1 = 0 by omega]
      rfl
    rw [List.getElem?_take, if_pos (by rw [hn1]; omega), List.getElem?_drop, Array.getElem?_toList] at h1
    exact h1
/-- rows known by their blocks: a new slice of rows -/
def rowP (w : World) (X : Nat → Prop) (cs : List Value) (x : List Int) : Prop := ∃ v F, cs = [v] ∧ OwnSl intO w v x F ∧ ∀ b ∈ F, X b
theorem rowP_rd {w : World} {X : Nat → Prop} {cs : List Value} {x : List Int} (h : rowP w X cs x) : (slR intR).rd w cs x := by
  obtain ⟨v, F, rfl, h, _⟩ := h
  exact ⟨v, rfl, h.sl⟩
theorem rowP_keep {w w2 : World} {X : Nat → Prop} {cs : List Value} {x : List Int} (h : rowP w X cs x) (hk : ∀ b, X b → b < w.heap.size → w2.heap[b]? = w.heap[b]?) : rowP w2 X cs x := by
  obtain ⟨v, F, rfl, h, hX⟩ := h
  exact ⟨v, F, rfl, h.keep fun b hb => hk b (hX b hb) (h.lt b hb), hX⟩
theorem rowP_mono {w : World} {X Y : Nat → Prop} {cs : List Value} {x : List Int} (h : rowP w X cs x) (hXY : ∀ b, X b → Y b) : rowP w Y cs x := by
  obtain ⟨v, F, rfl, h, hX⟩ := h
  exact ⟨v, F, rfl, h, fun b hb => hXY b (hX b hb)⟩
theorem rows_own {w : World} {X : Nat → Prop} {p : List Value → List Int → Prop} (hp : ∀ cs x, p cs x → rowP w X cs x) : ∀ {xs : List (List Int)} {cs : List Value} {F : List Nat}, OwnCells (atP (slR intR) p) w cs xs F → ∃ F2, OwnCells (slO intO) w cs xs F2 ∧ ∀ b ∈ F2, X b
  | [], _, _, h => ⟨[], ⟨h.1, rfl⟩, fun _ h => by cases h⟩
  | x :: xs, _, _, ⟨c, d, F1, F2, h1, h2, h3, h4⟩ => by
    obtain ⟨F4, k1, k2⟩ := rows_own hp h4
    obtain ⟨v, F3, e, ho, hX⟩ := hp _ _ h3.1.1
    exact ⟨F3 ++ F4, ⟨c, d, F3, F4, h1, rfl, ⟨v, e, ho⟩, k1⟩, fun b hb => (List.mem_append.1 hb).elim (hX b) (k2 b)⟩
theorem Bld.rowsOwn {w : World} {base : Nat} {e : TypeId} {v : Value} {xs : List (List Int)} {X : Nat → Prop} {p : List Value → List Int → Prop} (h : Bld (atP (slR intR) p) w base e v xs []) (hp : ∀ cs x, p cs x → rowP w X cs x) (hX : ∀ b, base ≤ b → X b) :
    ∃ F, OwnSl (slO intO) w v xs F ∧ ∀ b ∈ F, X b := by
  obtain ⟨cs, h1, h2, h3, h4, h5⟩ := h
  obtain ⟨F2, k1, k2⟩ := rows_own hp h2
  rcases h1.2 with ⟨rfl, hn⟩ | ⟨g, cap, cur, rfl, hb, hh, hnc, hcm, hcs, htake⟩
  · exact ⟨[], .inl ⟨List.eq_nil_of_length_eq_zero hn, rfl, none, 0, rfl, Nat.zero_le _⟩, fun _ h => by cases h⟩
  · refine ⟨g :: F2, .inr ⟨g, 0, cap, cur, e, F2, rfl, ⟨hnc, hcm⟩, hh, rfl, ?_, ?_⟩, fun b hb2 => ?_⟩
    · rw [hcs, Nat.zero_add]; exact Nat.mul_le_mul_right _ hnc
    · have : cur.toList.take (xs.length * (slO intO).n) = cs := htake
      rw [List.drop_zero, this]; exact k1
    · rcases List.mem_cons.1 hb2 with rfl | hb2
      · exact hX b hb
      · exact k2 b hb2
theorem joinG_len (g : List (List Int)) (a b : Int) : (joinG g a b).length ≤ g.length + 1 := by
  unfold joinG
  rw [List.length_append, List.length_singleton]
  have := keepG_len g (grIx g a) (grIx g b) g.length
  omega
theorem partG_len {g : List (List Int)} {M : Nat} (hg : ∀ r ∈ g, r.length ≤ M) (hM : 1 ≤ M) (x : Int) : (partG g (grIx g x) x).length ≤ M := by
  rcases grIx_cases g x with ⟨e, _⟩ | ⟨j, hj, e, _⟩
  · unfold partG; rw [e, if_neg (by omega)]; exact hM
  · unfold partG; rw [e, if_pos (by omega), Int.toNat_natCast, getG_at hj]; exact hg _ (List.getElem_mem hj)
theorem joinG_rows {g : List (List Int)} {M : Nat} (hg : ∀ r ∈ g, r.length ≤ M) (hM : 1 ≤ M) (a b : Int) : ∀ r ∈ joinG g a b, r.length ≤ 2 * M := fun r hr => by
  unfold joinG at hr
  have ha := partG_len hg hM a
  have hb := partG_len hg hM b
  rcases List.mem_append.1 hr with hr | hr
  · obtain ⟨j, hj, _, _, _, rfl⟩ := (keepG_mem g _ _ _ (Nat.le_refl _) r).1 hr
    have := hg _ (List.getElem_mem hj)
    omega
  · rw [List.mem_singleton] at hr
    subst hr
    split
    · omega
    · rw [List.length_append]; omega

set_option maxHeartbeats 1000000 in
set_option maxRecDepth 20000 in
theorem spec_l28Join (v : Value) (g : List (List Int)) (a b : Int) (w : World) (F : List Nat) (hO : OwnSl (slO intO) w v g F) (ia : I64 a) (ib : I64 b) (hl : g.length ≤ 1048576) (hg : ∀ r ∈ g, r.length ≤ 1048576) :
    Calls Try.prog 29 #[v, .int .i64 a, .int .i64 b] w fun e w2 => ∃ v2 F2, e = .returned v2 ∧ OwnSl (slO intO) w2 v2 (joinG g a b) F2 ∧ (∀ b ∈ F2, b ∈ F ∨ w.heap.size ≤ b) ∧ Ext w w2 := by
  have h : Sl (slR intR) w v g := hO.sl
  obtain ⟨A, cap, rfl, hm⟩ := h.form
  have hx := (Sl.new_ints w [a] 3 1 w.heap.size rfl rfl (by simpa using ia) (by simp [maxLen]))
  have hy := (Sl.new_ints (w.alloc (.cells ([a].map (Value.int .i64)).toArray 3)) [b] 3 1 (w.heap.size + 1) (by simp) rfl (by simpa using ib) (by simp [maxLen]))
  have x1 : Ext w (w.alloc (.cells ([a].map (Value.int .i64)).toArray 3)) := (Ext.refl _).alloc _
  have x2 : Ext (w.alloc (.cells ([a].map (Value.int .i64)).toArray 3)) ((w.alloc (.cells ([a].map (Value.int .i64)).toArray 3)).alloc (.cells ([b].map (Value.int .i64)).toArray 3)) := (Ext.refl _).alloc _
  have hx2 := hx.mono x2
  have x3 := x1.trans x2
  simp only [List.map_cons, List.map_nil] at hx2 hy x3
  clear hx x1 x2
  obtain ⟨W0, hW0⟩ : ∃ W0, W0 = ((w.alloc (.cells #[.int .i64 a] 3)).alloc (.cells #[.int .i64 b] 3)) := ⟨_, rfl⟩
  rw [← hW0] at hx2 hy x3
  have HA := hid (spec_l28Group _ g a (W0.alloc (.cells #[] 29)) (h.mono (x3.alloc _)))
  have HB := hid (spec_l28Group _ g b (W0.alloc (.cells #[] 29)) (h.mono (x3.alloc _)))
  have HJ := hid (show joinG g a b = keepG g (grIx g a) (grIx g b) g.length ++ [if 0 ≤ grIx g a ∧ grIx g a = grIx g b then partG g (grIx g a) a else partG g (grIx g a) a ++ partG g (grIx g b) b] from rfl)
  have ba := grIx_bd g a
  have bb := grIx_bd g b
  obtain ⟨i, hi⟩ : ∃ i, i = grIx g a := ⟨_, rfl⟩
  obtain ⟨k, hk⟩ : ∃ k, k = grIx g b := ⟨_, rfl⟩
  rw [← hi] at HA HJ ba
  rw [← hk] at HB HJ bb
  have hlits : W0.heap.size = w.heap.size + 2 := by rw [hW0]; simp
  have HSZ := hid hlits
  have HX := hid hx2
  have HY := hid hy
  clear hi hk hx2 hy hlits
  go_enter Try.func29, Try.ntmps29
  go_wp2_with fail
  rw [← hW0, show w.heap.size + 1 + 1 = W0.heap.size from HSZ.out.symm]
  clear hW0
  refine (HA.out).mono ?_
  rintro e w2 ⟨rfl, rfl⟩
  go_wp2_with fail
  refine (HB.out).mono ?_
  rintro e w2 ⟨rfl, rfl⟩
  have hB0 : Bld (atP (slR intR) (rowP w (· ∈ F))) (W0.alloc (.cells #[] 29)) W0.heap.size 29 (.slice (some ⟨W0.heap.size, 0, none⟩) 0 0) [] [] := Bld.lit W0 (Nat.le_refl _) _
  have x4 : Ext W0 (W0.alloc (.cells #[] 29)) := (Ext.refl _).alloc _
  go_wp2_with fail
  go_loopw [9, 12] (fun t j wr => ∃ n : Nat, n ≤ g.length ∧ j = .int .i64 n ∧ Bld (atP (slR intR) (rowP w (· ∈ F))) wr W0.heap.size 29 t (keepG g i k n) [] ∧ Ext W0 wr) (fun _ j _ => g.length - (intOf j).toNat)
  case atStart => exact ⟨0, Nat.zero_le _, rfl, hB0, x4⟩
  case round =>
    clear hB0 x4
    obtain ⟨n, hn, rfl, hB, hx⟩ := hrel
    by_cases hlt : n < g.length
    · obtain ⟨bg, og, cg, A2, c2, F2, eA, hc, hsl, hF2⟩ := hO.row_ hlt
      cases eA
      have hcr := (x3.trans hx).cell hc
      have hkl := keepG_len g i k n
      by_cases h1 : (n : Int) = i
      · have HS := hid (keepG_skip (g := g) (i := i) (k := k) (n := n) (.inl h1))
        have e1 : ((n : Int) != i) = false := by simp [h1]
        clear h1
        go_wp2
        go_roundw
        case rel => exact ⟨n + 1, by omega, by go_num, by rw [HS.out]; exact hB, hx⟩
        case measure => simp [intOf]; omega
      · have e1 : ((n : Int) != i) = true := by simp [h1]
        by_cases h2 : (n : Int) = k
        · have HS := hid (keepG_skip (g := g) (i := i) (k := k) (n := n) (.inr h2))
          have e2 : ((n : Int) != k) = false := by simp [h2]
          clear h1 h2
          go_wp2
          go_roundw
          case rel => exact ⟨n + 1, by omega, by go_num, by rw [HS.out]; exact hB, hx⟩
          case measure => simp [intOf]; omega
        · have HS := hid (keepG_take (g := g) (i := i) (k := k) (fun h => h.elim h1 h2) hlt)
          have e2 : ((n : Int) != k) = true := by simp [h2]
          have HL := hid (show (keepG g i k n).length + 1 ≤ 1099511627776 by omega)
          clear h1 h2 hkl
          go_wp2_with (at_builtin; refine wpList_app1 (R := atP (slR intR) (rowP w (· ∈ F))) elemInts Nat.zero_lt_one rfl _ _ rfl hB rfl _ 1 rfl (by simp) (one_slice _ _ _) (y := g[n]) ⟨⟨⟨_, _, rfl, hsl, hF2⟩, rfl⟩, rfl⟩ fresh_nil HL.out (by decide) hx.size ?_; intro v9 w9 hB9 hE9)
          go_roundw
          case rel => exact ⟨n + 1, by omega, by go_num, by rw [HS.out]; exact hB9, hE9 W0 (Nat.le_refl _) hx⟩
          case measure => simp [intOf]; omega
    · have hng : n = g.length := by omega
      subst hng
      by_cases hi0 : 0 ≤ i
      · obtain ⟨ni, rfl⟩ : ∃ ni : Nat, i = ni := ⟨i.toNat, by omega⟩
        have hni : ni < g.length := by omega
        by_cases hk0 : 0 ≤ k
        · obtain ⟨nk, rfl⟩ : ∃ nk : Nat, k = nk := ⟨k.toNat, by omega⟩
          have hnk : nk < g.length := by omega
          by_cases hik : ni = nk
          · subst hik
            obtain ⟨bx, ox, cx, Ax, capx, Fx, eX, hcx, hslx, hFx⟩ := hO.row_ hni
            cases eX
            have hcxr := (x3.trans hx).cell hcx
            have HJ2 := hid (show joinG g a b = keepG g (ni : Int) (ni : Int) g.length ++ [g[ni]] from by
              rw [HJ.out, if_pos ⟨by omega, rfl⟩]
              unfold partG
              rw [if_pos (by omega), Int.toNat_natCast, getG_at hni])
            have HKL := hid (show (keepG g (ni : Int) (ni : Int) g.length).length + 1 ≤ 1099511627776 from by have := keepG_len g ni ni g.length; omega)
            have e9 : ((ni : Int) == (ni : Int)) = true := by simp
            go_wp2_with (at_builtin; refine wpList_app1 (R := atP (slR intR) (rowP w (· ∈ F))) elemInts Nat.zero_lt_one rfl _ _ rfl hB rfl _ 1 rfl (by simp) (one_slice _ _ _) (y := g[ni]) ⟨⟨⟨_, _, rfl, hslx, hFx⟩, rfl⟩, rfl⟩ fresh_nil HKL.out (by decide) hx.size ?_; intro v9 w9 hB9 hE9)
            go_ret
            have x9 := x3.trans (hE9 W0 (Nat.le_refl _) hx)
            obtain ⟨F9, k1, k2⟩ := hB9.rowsOwn (X := fun b => b ∈ F ∨ w.heap.size ≤ b) (fun cs x h => rowP_mono (rowP_keep h fun b _ hb => x9.block hb) fun b => .inl) (fun b hb => .inr (Nat.le_trans x3.size hb))
            exact ⟨_, rfl, F9, by rw [HJ2.out]; exact k1, k2, x9⟩
          · obtain ⟨bx, ox, Ax, capx, eX, hslx, hcx⟩ := h.sl hni
            cases eX
            have hcxr := (x3.trans hx).cell hcx
            have HXL := hid (hg g[ni] (List.getElem_mem hni))
            have HSX := hid (show ∀ W, Ext wr W → Sl intR W (.slice Ax g[ni].length capx) g[ni] from fun W y => hslx.mono ((x3.trans hx).trans y))
            obtain ⟨by_, oy, Ay, capy, eY, hsly, hcy⟩ := h.sl hnk
            cases eY
            have hcyr := (x3.trans hx).cell hcy
            have HYL := hid (hg g[nk] (List.getElem_mem hnk))
            have HSY := hid (show ∀ W, Ext wr W → Sl intR W (.slice Ay g[nk].length capy) g[nk] from fun W y => hsly.mono ((x3.trans hx).trans y))
            have HJ2 := hid (show joinG g a b = keepG g (ni : Int) (nk : Int) g.length ++ [g[ni] ++ g[nk]] from by
              rw [HJ.out, if_neg (by omega), show partG g (ni : Int) a = g[ni] from by unfold partG; rw [if_pos (by omega), Int.toNat_natCast, getG_at hni], show partG g (nk : Int) b = g[nk] from by unfold partG; rw [if_pos (by omega), Int.toNat_natCast, getG_at hnk]])
            have HLX := hid (show ([] : List Int).length + (g[ni]).length ≤ 1099511627776 from by have := HXL.out; simp only [List.length_nil, List.length_cons] at this ⊢; omega)
            have HLY := hid (show ([] ++ g[ni] : List Int).length + (g[nk]).length ≤ 1099511627776 from by have := HXL.out; have := HYL.out; simp only [List.nil_append, List.length_nil, List.length_cons] at *; omega)
            have HKL := hid (show (keepG g (ni : Int) (nk : Int) g.length).length + 1 ≤ 1099511627776 from by have := keepG_len g (ni : Int) (nk : Int) g.length; omega)
            have HBW := hid (show W0.heap.size ≤ wr.heap.size from hx.size)
            have HX0 := hid hx
            have HX3 := hid x3
            have HBo := hid hB
            clear hB hx x3 HXL HYL
            have e9 : ((ni : Int) == (nk : Int)) = false := by simp; omega
            go_wp2_with (first | (at_builtin; have hth := hB6; refine wpList_app1h (R := atP (slR intR) fun cs y => rowP w (· ∈ F) cs y ∨ (cs = [.slice A6 n6 c6] ∧ y = g[ni] ++ g[nk])) elemInts Nat.zero_lt_one rfl _ _ rfl (HBo.out.orP x6) rfl _ 1 rfl (by simp) (one_slice _ _ _) (y := g[ni] ++ g[nk]) ⟨⟨.inr ⟨rfl, rfl⟩, rfl⟩, rfl⟩ fresh_nil HKL.out (by decide) (Nat.le_trans HBW.out x6.size) ?_; intro v9 w9 hB9 hE9 hA9) | (at_builtin; have hse := hB5; refine wpList_appn elemInt rfl _ _ rfl hB5 rfl rfl (HSY.out _ x5) HLY.out x5.size ?_; intro v6 w6 hB6 hE6; rw [List.nil_append] at hB6; have x6 : Ext wr w6 := hE6 wr (Nat.le_refl _) x5; obtain ⟨A6, c6, e6, _⟩ := hB6.sl.form; obtain ⟨n6, hn6⟩ : ∃ n6, n6 = (g[ni] ++ g[nk]).length := ⟨_, rfl⟩; rw [← hn6] at e6; clear hn6; subst e6) | (at_builtin; refine wpList_appn elemInt rfl _ _ rfl (Bld.lit wr (Nat.le_refl _) _) rfl rfl (HSX.out _ ((Ext.refl _).alloc _)) HLX.out (by simp) ?_; intro v5 w5 hB5 hE5; have x5 : Ext wr w5 := hE5 wr (Nat.le_refl _) ((Ext.refl _).alloc _)))
            go_ret
            have x9 : Ext W0 w9 := hE9 W0 (Nat.le_refl _) (HX0.out.trans x6)
            obtain ⟨F6, d1, _, d3⟩ := (hB6.keep (w2 := w9) fun b hb hlt => hA9.keep b hlt fun e => by have := (HBo.out.lt.2 b e).1; omega).done
            obtain ⟨F9, k1, k2⟩ := hB9.rowsOwn (X := fun b => b ∈ F ∨ w.heap.size ≤ b) (fun cs y h => h.elim (fun h => rowP_mono (rowP_keep h fun b _ hb => (HX3.out.trans x9).block hb) fun b => .inl) fun ⟨h1, h2⟩ => by rw [h2]; exact ⟨_, F6, h1, d1, fun b hb => .inr (Nat.le_trans (Nat.le_trans HX3.out.size HX0.out.size) (d3 b hb))⟩) (fun b hb => .inr (Nat.le_trans HX3.out.size hb))
            have k3 : OwnSl (slO intO) w9 v9 (joinG g a b) F9 := by rw [HJ2.out]; exact k1
            first | exact ⟨_, F9, rfl, k3, k2, HX3.out.trans x9⟩ | exact ⟨_, rfl, F9, k3, k2, HX3.out.trans x9⟩
        · obtain ⟨bx, ox, Ax, capx, eX, hslx, hcx⟩ := h.sl hni
          cases eX
          have hcxr := (x3.trans hx).cell hcx
          have HXL := hid (hg g[ni] (List.getElem_mem hni))
          have HSX := hid (show ∀ W, Ext wr W → Sl intR W (.slice Ax g[ni].length capx) g[ni] from fun W y => hslx.mono ((x3.trans hx).trans y))
          have HYL := hid (show ([b] : List Int).length ≤ 1048576 from by simp)
          have HSY := hid (show ∀ W, Ext wr W → Sl intR W (.slice (some ⟨w.heap.size + 1, 0, none⟩) 1 1) [b] from fun W y => HY.out.mono (hx.trans y))
          have HJ2 := hid (show joinG g a b = keepG g (ni : Int) k g.length ++ [g[ni] ++ [b]] from by
            rw [HJ.out, if_neg (by omega), show partG g (ni : Int) a = g[ni] from by unfold partG; rw [if_pos (by omega), Int.toNat_natCast, getG_at hni], show partG g k b = [b] from by unfold partG; rw [if_neg (by omega)]])
          have HLX := hid (show ([] : List Int).length + (g[ni]).length ≤ 1099511627776 from by have := HXL.out; simp only [List.length_nil, List.length_cons] at this ⊢; omega)
          have HLY := hid (show ([] ++ g[ni] : List Int).length + ([b]).length ≤ 1099511627776 from by have := HXL.out; have := HYL.out; simp only [List.nil_append, List.length_nil, List.length_cons] at *; omega)
          have HKL := hid (show (keepG g (ni : Int) k g.length).length + 1 ≤ 1099511627776 from by have := keepG_len g (ni : Int) k g.length; omega)
          have HBW := hid (show W0.heap.size ≤ wr.heap.size from hx.size)
          have HX0 := hid hx
          have HX3 := hid x3
          have HBo := hid hB
          clear hB hx x3 HXL HYL
          have e9 : ((ni : Int) == k) = false := by simp; omega
          go_wp2_with (first | (at_builtin; have hth := hB6; refine wpList_app1h (R := atP (slR intR) fun cs y => rowP w (· ∈ F) cs y ∨ (cs = [.slice A6 n6 c6] ∧ y = g[ni] ++ [b])) elemInts Nat.zero_lt_one rfl _ _ rfl (HBo.out.orP x6) rfl _ 1 rfl (by simp) (one_slice _ _ _) (y := g[ni] ++ [b]) ⟨⟨.inr ⟨rfl, rfl⟩, rfl⟩, rfl⟩ fresh_nil HKL.out (by decide) (Nat.le_trans HBW.out x6.size) ?_; intro v9 w9 hB9 hE9 hA9) | (at_builtin; have hse := hB5; refine wpList_appn elemInt rfl _ _ rfl hB5 rfl rfl (HSY.out _ x5) HLY.out x5.size ?_; intro v6 w6 hB6 hE6; rw [List.nil_append] at hB6; have x6 : Ext wr w6 := hE6 wr (Nat.le_refl _) x5; obtain ⟨A6, c6, e6, _⟩ := hB6.sl.form; obtain ⟨n6, hn6⟩ : ∃ n6, n6 = (g[ni] ++ [b]).length := ⟨_, rfl⟩; rw [← hn6] at e6; clear hn6; subst e6) | (at_builtin; refine wpList_appn elemInt rfl _ _ rfl (Bld.lit wr (Nat.le_refl _) _) rfl rfl (HSX.out _ ((Ext.refl _).alloc _)) HLX.out (by simp) ?_; intro v5 w5 hB5 hE5; have x5 : Ext wr w5 := hE5 wr (Nat.le_refl _) ((Ext.refl _).alloc _)))
          go_ret
          have x9 : Ext W0 w9 := hE9 W0 (Nat.le_refl _) (HX0.out.trans x6)
          obtain ⟨F6, d1, _, d3⟩ := (hB6.keep (w2 := w9) fun b hb hlt => hA9.keep b hlt fun e => by have := (HBo.out.lt.2 b e).1; omega).done
          obtain ⟨F9, k1, k2⟩ := hB9.rowsOwn (X := fun b => b ∈ F ∨ w.heap.size ≤ b) (fun cs y h => h.elim (fun h => rowP_mono (rowP_keep h fun b _ hb => (HX3.out.trans x9).block hb) fun b => .inl) fun ⟨h1, h2⟩ => by rw [h2]; exact ⟨_, F6, h1, d1, fun b hb => .inr (Nat.le_trans (Nat.le_trans HX3.out.size HX0.out.size) (d3 b hb))⟩) (fun b hb => .inr (Nat.le_trans HX3.out.size hb))
          have k3 : OwnSl (slO intO) w9 v9 (joinG g a b) F9 := by rw [HJ2.out]; exact k1
          first | exact ⟨_, F9, rfl, k3, k2, HX3.out.trans x9⟩ | exact ⟨_, rfl, F9, k3, k2, HX3.out.trans x9⟩
      · by_cases hk0 : 0 ≤ k
        · obtain ⟨nk, rfl⟩ : ∃ nk : Nat, k = nk := ⟨k.toNat, by omega⟩
          have hnk : nk < g.length := by omega
          have HXL := hid (show ([a] : List Int).length ≤ 1048576 from by simp)
          have HSX := hid (show ∀ W, Ext wr W → Sl intR W (.slice (some ⟨w.heap.size, 0, none⟩) 1 1) [a] from fun W y => HX.out.mono (hx.trans y))
          obtain ⟨by_, oy, Ay, capy, eY, hsly, hcy⟩ := h.sl hnk
          cases eY
          have hcyr := (x3.trans hx).cell hcy
          have HYL := hid (hg g[nk] (List.getElem_mem hnk))
          have HSY := hid (show ∀ W, Ext wr W → Sl intR W (.slice Ay g[nk].length capy) g[nk] from fun W y => hsly.mono ((x3.trans hx).trans y))
          have HJ2 := hid (show joinG g a b = keepG g i (nk : Int) g.length ++ [[a] ++ g[nk]] from by
            rw [HJ.out, if_neg (by omega), show partG g i a = [a] from by unfold partG; rw [if_neg (by omega)], show partG g (nk : Int) b = g[nk] from by unfold partG; rw [if_pos (by omega), Int.toNat_natCast, getG_at hnk]])
          have HLX := hid (show ([] : List Int).length + ([a]).length ≤ 1099511627776 from by have := HXL.out; simp only [List.length_nil, List.length_cons] at this ⊢; omega)
          have HLY := hid (show ([] ++ [a] : List Int).length + (g[nk]).length ≤ 1099511627776 from by have := HXL.out; have := HYL.out; simp only [List.nil_append, List.length_nil, List.length_cons] at *; omega)
          have HKL := hid (show (keepG g i (nk : Int) g.length).length + 1 ≤ 1099511627776 from by have := keepG_len g i (nk : Int) g.length; omega)
          have HBW := hid (show W0.heap.size ≤ wr.heap.size from hx.size)
          have HX0 := hid hx
          have HX3 := hid x3
          have HBo := hid hB
          clear hB hx x3 HXL HYL
          go_wp2_with (first | (at_builtin; have hth := hB6; refine wpList_app1h (R := atP (slR intR) fun cs y => rowP w (· ∈ F) cs y ∨ (cs = [.slice A6 n6 c6] ∧ y = [a] ++ g[nk])) elemInts Nat.zero_lt_one rfl _ _ rfl (HBo.out.orP x6) rfl _ 1 rfl (by simp) (one_slice _ _ _) (y := [a] ++ g[nk]) ⟨⟨.inr ⟨rfl, rfl⟩, rfl⟩, rfl⟩ fresh_nil HKL.out (by decide) (Nat.le_trans HBW.out x6.size) ?_; intro v9 w9 hB9 hE9 hA9) | (at_builtin; have hse := hB5; refine wpList_appn elemInt rfl _ _ rfl hB5 rfl rfl (HSY.out _ x5) HLY.out x5.size ?_; intro v6 w6 hB6 hE6; rw [List.nil_append] at hB6; have x6 : Ext wr w6 := hE6 wr (Nat.le_refl _) x5; obtain ⟨A6, c6, e6, _⟩ := hB6.sl.form; obtain ⟨n6, hn6⟩ : ∃ n6, n6 = ([a] ++ g[nk]).length := ⟨_, rfl⟩; rw [← hn6] at e6; clear hn6; subst e6) | (at_builtin; refine wpList_appn elemInt rfl _ _ rfl (Bld.lit wr (Nat.le_refl _) _) rfl rfl (HSX.out _ ((Ext.refl _).alloc _)) HLX.out (by simp) ?_; intro v5 w5 hB5 hE5; have x5 : Ext wr w5 := hE5 wr (Nat.le_refl _) ((Ext.refl _).alloc _)))
          go_ret
          have x9 : Ext W0 w9 := hE9 W0 (Nat.le_refl _) (HX0.out.trans x6)
          obtain ⟨F6, d1, _, d3⟩ := (hB6.keep (w2 := w9) fun b hb hlt => hA9.keep b hlt fun e => by have := (HBo.out.lt.2 b e).1; omega).done
          obtain ⟨F9, k1, k2⟩ := hB9.rowsOwn (X := fun b => b ∈ F ∨ w.heap.size ≤ b) (fun cs y h => h.elim (fun h => rowP_mono (rowP_keep h fun b _ hb => (HX3.out.trans x9).block hb) fun b => .inl) fun ⟨h1, h2⟩ => by rw [h2]; exact ⟨_, F6, h1, d1, fun b hb => .inr (Nat.le_trans (Nat.le_trans HX3.out.size HX0.out.size) (d3 b hb))⟩) (fun b hb => .inr (Nat.le_trans HX3.out.size hb))
          have k3 : OwnSl (slO intO) w9 v9 (joinG g a b) F9 := by rw [HJ2.out]; exact k1
          first | exact ⟨_, F9, rfl, k3, k2, HX3.out.trans x9⟩ | exact ⟨_, rfl, F9, k3, k2, HX3.out.trans x9⟩

        · have HXL := hid (show ([a] : List Int).length ≤ 1048576 from by simp)
          have HSX := hid (show ∀ W, Ext wr W → Sl intR W (.slice (some ⟨w.heap.size, 0, none⟩) 1 1) [a] from fun W y => HX.out.mono (hx.trans y))
          have HYL := hid (show ([b] : List Int).length ≤ 1048576 from by simp)
          have HSY := hid (show ∀ W, Ext wr W → Sl intR W (.slice (some ⟨w.heap.size + 1, 0, none⟩) 1 1) [b] from fun W y => HY.out.mono (hx.trans y))
          have HJ2 := hid (show joinG g a b = keepG g i k g.length ++ [[a] ++ [b]] from by
            rw [HJ.out, if_neg (by omega), show partG g i a = [a] from by unfold partG; rw [if_neg (by omega)], show partG g k b = [b] from by unfold partG; rw [if_neg (by omega)]])
          have HLX := hid (show ([] : List Int).length + ([a]).length ≤ 1099511627776 from by have := HXL.out; simp only [List.length_nil, List.length_cons] at this ⊢; omega)
          have HLY := hid (show ([] ++ [a] : List Int).length + ([b]).length ≤ 1099511627776 from by have := HXL.out; have := HYL.out; simp only [List.nil_append, List.length_nil, List.length_cons] at *; omega)
          have HKL := hid (show (keepG g i k g.length).length + 1 ≤ 1099511627776 from by have := keepG_len g i k g.length; omega)
          have HBW := hid (show W0.heap.size ≤ wr.heap.size from hx.size)
          have HX0 := hid hx
          have HX3 := hid x3
          have HBo := hid hB
          clear hB hx x3 HXL HYL
          go_wp2_with (first | (at_builtin; have hth := hB6; refine wpList_app1h (R := atP (slR intR) fun cs y => rowP w (· ∈ F) cs y ∨ (cs = [.slice A6 n6 c6] ∧ y = [a] ++ [b])) elemInts Nat.zero_lt_one rfl _ _ rfl (HBo.out.orP x6) rfl _ 1 rfl (by simp) (one_slice _ _ _) (y := [a] ++ [b]) ⟨⟨.inr ⟨rfl, rfl⟩, rfl⟩, rfl⟩ fresh_nil HKL.out (by decide) (Nat.le_trans HBW.out x6.size) ?_; intro v9 w9 hB9 hE9 hA9) | (at_builtin; have hse := hB5; refine wpList_appn elemInt rfl _ _ rfl hB5 rfl rfl (HSY.out _ x5) HLY.out x5.size ?_; intro v6 w6 hB6 hE6; rw [List.nil_append] at hB6; have x6 : Ext wr w6 := hE6 wr (Nat.le_refl _) x5; obtain ⟨A6, c6, e6, _⟩ := hB6.sl.form; obtain ⟨n6, hn6⟩ : ∃ n6, n6 = ([a] ++ [b]).length := ⟨_, rfl⟩; rw [← hn6] at e6; clear hn6; subst e6) | (at_builtin; refine wpList_appn elemInt rfl _ _ rfl (Bld.lit wr (Nat.le_refl _) _) rfl rfl (HSX.out _ ((Ext.refl _).alloc _)) HLX.out (by simp) ?_; intro v5 w5 hB5 hE5; have x5 : Ext wr w5 := hE5 wr (Nat.le_refl _) ((Ext.refl _).alloc _)))
          go_ret
          have x9 : Ext W0 w9 := hE9 W0 (Nat.le_refl _) (HX0.out.trans x6)
          obtain ⟨F6, d1, _, d3⟩ := (hB6.keep (w2 := w9) fun b hb hlt => hA9.keep b hlt fun e => by have := (HBo.out.lt.2 b e).1; omega).done
          obtain ⟨F9, k1, k2⟩ := hB9.rowsOwn (X := fun b => b ∈ F ∨ w.heap.size ≤ b) (fun cs y h => h.elim (fun h => rowP_mono (rowP_keep h fun b _ hb => (HX3.out.trans x9).block hb) fun b => .inl) fun ⟨h1, h2⟩ => by rw [h2]; exact ⟨_, F6, h1, d1, fun b hb => .inr (Nat.le_trans (Nat.le_trans HX3.out.size HX0.out.size) (d3 b hb))⟩) (fun b hb => .inr (Nat.le_trans HX3.out.size hb))
          have k3 : OwnSl (slO intO) w9 v9 (joinG g a b) F9 := by rw [HJ2.out]; exact k1
          first | exact ⟨_, F9, rfl, k3, k2, HX3.out.trans x9⟩ | exact ⟨_, rfl, F9, k3, k2, HX3.out.trans x9⟩
end Go.Proofs.Ytmembjjgkideeaa
