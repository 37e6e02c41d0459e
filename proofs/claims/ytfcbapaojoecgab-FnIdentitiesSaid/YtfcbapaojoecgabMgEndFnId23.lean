/-
  PLAIN LAWS: what CarryIdentities answers: entities, their number, old and new identifiers, an unchanged group keeps its identifier.
-/
import Derived.Test.YtfcbapaojoecgabMgEndFnId22

namespace Go.Proofs.Ytfcbapaojoecgab
open Go.RowKit

theorem grpOk_split (all g : List Int) : grpOk all g = true ↔ grpOk [] g = true ∧ ∀ x ∈ g, x ∉ all := by
  unfold grpOk
  rw [List.all_eq_true, List.all_eq_true]
  constructor
  · intro h
    refine ⟨fun k hk => ?_, fun x hx hm => ?_⟩
    · have h9 := h k hk
      rw [grpAt_eq (List.mem_range.1 hk), Bool.and_eq_true] at h9 ⊢
      exact ⟨h9.1, by simp [hasI]⟩
    · obtain ⟨j, hj, rfl⟩ := List.mem_iff_getElem.1 hx
      have h9 := h j (List.mem_range.2 hj)
      rw [grpAt_eq hj, Bool.and_eq_true, (hasI_iff _ _).2 hm] at h9
      cases h9.2
  · intro h k hk
    have h9 := h.1 k hk
    have hk2 := List.mem_range.1 hk
    rw [grpAt_eq hk2, Bool.and_eq_true] at h9 ⊢
    refine ⟨h9.1, ?_⟩
    have := h.2 g[k] (List.getElem_mem hk2)
    cases hh : hasI g[k] all with
    | false => rfl
    | true => exact absurd ((hasI_iff _ _).1 hh) this
theorem goS_grp : ∀ (gs : List (List Int)) (all : List Int), goS all gs = true → ∀ g ∈ gs, grpOk [] g = true
  | [], _, _, _, h => by cases h
  | y :: gs, all, h, g, hg => by
    rw [goS, Bool.and_eq_true, Bool.and_eq_true] at h
    rcases List.mem_cons.1 hg with rfl | hg
    · exact ((grpOk_split all _).1 h.1.1).1
    · exact goS_grp gs _ h.2 g hg
theorem goS_mk : ∀ (gs : List (List Int)) (all : List Int), all.length + sumLen gs ≤ 8 → (∀ g ∈ gs, 0 < g.length ∧ grpOk [] g = true ∧ ∀ x ∈ g, x ∉ all) → gs.Pairwise (fun a b => ∀ x ∈ b, x ∉ a) → goS all gs = true
  | [], all, h, _, _ => by
    unfold sumLen at h
    simp only [List.map_nil, List.sum_nil] at h
    simp only [goS, decide_eq_true_eq]
    omega
  | g :: gs, all, h, h2, h3 => by
    obtain ⟨k1, k2, k3⟩ := h2 g (List.mem_cons_self ..)
    obtain ⟨p1, p2⟩ := List.pairwise_cons.1 h3
    rw [goS, Bool.and_eq_true, Bool.and_eq_true]
    refine ⟨⟨(grpOk_split all g).2 ⟨k2, k3⟩, ?_⟩, goS_mk gs (all ++ g) ?_ (fun y hy => ?_) p2⟩
    · have : ¬ g.length = 0 := by omega
      simpa using this
    · unfold sumLen at *
      simp only [List.map_cons, List.sum_cons, List.length_append] at *
      omega
    · obtain ⟨q1, q2, q3⟩ := h2 y (List.mem_cons_of_mem _ hy)
      refine ⟨q1, q2, fun x hx hm => ?_⟩
      rcases List.mem_append.1 hm with hm | hm
      · exact q3 x hx hm
      · exact p1 y hy x hx hm
theorem sumLen_perm {a b : List (List Int)} (h : a.Perm b) : sumLen a = sumLen b := by
  unfold sumLen
  induction h with
  | nil => rfl
  | cons x _ ih => simp only [List.map_cons, List.sum_cons]; omega
  | swap x y l => simp only [List.map_cons, List.sum_cons]; omega
  | trans _ _ h1 h2 => exact h1.trans h2
theorem areGroups_perm {a b : List (List Int)} (h : a.Perm b) (hb : areGroups b = true) : areGroups a = true := by
  have h1 := goS_sum _ _ hb
  obtain ⟨h2, h3⟩ := goS_facts _ _ hb
  refine goS_mk a [] (by rw [sumLen_perm h]; exact h1) (fun g hg => ?_) ?_
  · have hm := h.mem_iff.1 hg
    exact ⟨(h2 g hm).1, goS_grp _ _ hb g hm, fun x _ hx => by cases hx⟩
  · refine (h.pairwise_iff ?_).2 h3
    intro x y hxy z hz hzy
    exact hxy z hzy hz
theorem ents_mk {xs : List Entity} (h1 : ∀ e ∈ xs, 1 ≤ e.id ∧ e.id ≤ 9999) (h2 : xs.Pairwise fun x y => x.id < y.id) (h3 : areGroups (mems xs) = true) : areEnts xs = true := by
  rw [ents_yes fun j hj => ?_]
  · exact h3
  · unfold entAt
    rw [idsOf_at hj, Bool.and_eq_true]
    refine ⟨inB_iff.2 (h1 _ (List.getElem_mem hj)), ?_⟩
    by_cases h0 : j = 0
    · subst h0; rfl
    · rw [idsOf_at (show j - 1 < xs.length by omega), Bool.or_eq_true, decide_eq_true_eq]
      exact .inr (List.pairwise_iff_getElem.1 h2 (j - 1) j (by omega) hj (by omega))
theorem outC_mems (old : List Entity) (a : List Int) (gs : List (List Int)) (n : Int) : ∀ m, m ≤ gs.length → mems (outC old a gs n m).1 = gs.take m
  | 0, _ => by simp [outC, mems]
  | m + 1, h => by
    have ih := outC_mems old a gs n m (by omega)
    have e : mems (outC old a gs n (m + 1)).1 = mems (outC old a gs n m).1 ++ [gs.getD m []] := by
      show mems (stepC old a gs (outC old a gs n m) m).1 = _
      unfold stepC mems
      split <;> simp
    rw [e, ih, List.take_succ_eq_append_getElem (by omega), getD_at (by omega)]
theorem outC_at (old : List Entity) (a : List Int) (gs : List (List Int)) (n : Int) : ∀ m, ∀ e ∈ (outC old a gs n m).1, ∃ k, k < m ∧ e.members = gs.getD k [] ∧ (idTo old a k a.length ≠ 0 → e.id = idTo old a k a.length)
  | 0, e, h => by cases h
  | m + 1, e, h => by
    have h' : e ∈ (stepC old a gs (outC old a gs n m) m).1 := h
    unfold stepC at h'
    split at h'
    · rename_i hz
      rcases List.mem_append.1 h' with h' | h'
      · obtain ⟨k, hk, h2⟩ := outC_at old a gs n m e h'
        exact ⟨k, by omega, h2⟩
      · rw [List.mem_singleton] at h'
        subst h'
        exact ⟨m, by omega, rfl, fun h => absurd hz h⟩
    · rcases List.mem_append.1 h' with h' | h'
      · obtain ⟨k, hk, h2⟩ := outC_at old a gs n m e h'
        exact ⟨k, by omega, h2⟩
      · rw [List.mem_singleton] at h'
        subst h'
        exact ⟨m, by omega, rfl, fun _ => rfl⟩

/-- the answer's facts, when there is one -/
theorem carry_facts {old : List Entity} {g : List (List Int)} {n : Int} (h : okC old g n = true) :
    areEnts (carry old g n).1 = true ∧ (carry old g n).1.length = g.length ∧ (∀ e ∈ (carry old g n).1, e.id < (carry old g n).2.1) ∧
    (∀ e ∈ (carry old g n).1, (∀ o ∈ old, o.id ≠ e.id) → n ≤ e.id) := by
  obtain ⟨h1, h2, h3, h4⟩ := okC_parts h
  have hal := asC_len h1 h2
  have hob := (ents_ids h1).2
  rw [carry_yes h]
  dsimp only
  obtain ⟨s1, s2⟩ := outC_src (a := asC old g) (gsC g) h1 h4 (Nat.le_of_eq hal) (gsC g).length
  obtain ⟨l1, l2, l3⟩ := outC_len old (asC old g) (gsC g) n (gsC g).length
  have hgs := (gsC_small h2).1
  have hm := outC_mems old (asC old g) (gsC g) n (gsC g).length (Nat.le_refl _)
  rw [List.take_length] at hm
  obtain ⟨o, ho⟩ : ∃ o, o = outC old (asC old g) (gsC g) n (gsC g).length := ⟨_, rfl⟩
  rw [← ho] at s1 s2 l1 l2 l3 hm ⊢
  have hp := sortF_perm o.1
  have hso := sortF_sorted o.1
  have hgl : (gsC g).length = g.length := by unfold gsC; rw [sortK_len]
  have hmem : ∀ e ∈ sortF o.1, srcC old (asC old g) (gsC g) n o.2 (gsC g).length e := fun e he => s1 e (hp.mem_iff.1 he)
  refine ⟨ents_mk (fun e he => ?_) ?_ ?_, by rw [hp.length_eq, l1, hgl], fun e he => ?_, fun e he hno => ?_⟩
  · rcases hmem e he with ⟨k, _, i, hi, _, _, h5, _⟩ | h5
    · rw [h5]; exact hob _ (List.getElem_mem hi)
    · omega
  · have hd : (sortF o.1).Pairwise fun x y => x.id ≠ y.id := (hp.pairwise_iff fun h => Ne.symm h).2 s2
    have hs2 : (sortF o.1).Pairwise fun x y => x.id ≤ y.id := hso
    exact (hd.and hs2).imp fun h => by omega
  · have : (mems (sortF o.1)).Perm (gsC g) := by
      rw [← hm]
      exact hp.map _
    exact areGroups_perm (this.trans (sortK_perm hdI g)) h2
  · rcases hmem e he with ⟨k, _, i, hi, _, _, h5, _⟩ | h5
    · have := h4 _ (List.getElem_mem hi); omega
    · exact h5.2
  · rcases hmem e he with ⟨k, _, i, hi, _, _, h5, _⟩ | h5
    · exact absurd h5.symm (hno _ (List.getElem_mem hi))
    · exact h5.1

theorem cntIn_self (x : List Int) : cntIn x x = x.length := by
  unfold cntIn
  rw [List.filter_eq_self.2 fun a ha => (hasI_iff _ _).2 ha]
theorem cntIn_none {x y : List Int} (h : ∀ z ∈ x, z ∉ y) : cntIn x y = 0 := by
  unfold cntIn
  rw [List.length_eq_zero_iff, List.filter_eq_nil_iff]
  intro a ha hh
  exact h a ha ((hasI_iff _ _).1 hh)
theorem sumTo_set (m : List (List Int)) (a : List Int) {j : Nat} (x : Int) (hj : j < a.length) : ∀ n, sumTo m (a.set j x) n = sumTo m a n + if j < n then valAt m (a.set j x) j - valAt m a j else 0
  | 0 => by simp [sumTo]
  | n + 1 => by
    have ih := sumTo_set m a x hj n
    simp only [sumTo]
    rw [ih]
    by_cases hjn : j = n
    · subst hjn
      rw [if_neg (by omega), if_pos (by omega)]
      omega
    · have e : valAt m (a.set j x) n = valAt m a n := by
        unfold valAt
        rw [show (a.set j x).getD n 0 = a.getD n 0 by rw [List.getD_eq_getElem?_getD, List.getElem?_set_ne hjn, ← List.getD_eq_getElem?_getD]]
      rw [e]
      by_cases hlt : j < n
      · rw [if_pos hlt, if_pos (by omega)]; omega
      · rw [if_neg hlt, if_neg (by omega)]; omega
/-- a row and a column that meet no other: the best assignment joins them -/
theorem best_joins {m : List (List Int)} (hok : okMat m = true) {j k : Nat} (hj : j < m.length) (hk : k < m[j].length) (h0 : 0 < m[j][k])
    (hrow : ∀ c (hc : c < m[j].length), c ≠ k → m[j][c] = 0) (hcol : ∀ i (hi : i < m.length), i ≠ j → m[i].getD k 0 = 0) :
    (bestAsg m).getD j (-1) = (k : Int) := by
  obtain ⟨b1, b2⟩ := best_asg hok
  obtain ⟨_, hl, hp⟩ := okAsg_parts b1
  obtain ⟨a, ha⟩ : ∃ a, a = bestAsg m := ⟨_, rfl⟩
  rw [← ha] at b1 b2 hl hp ⊢
  have hja : j < a.length := by omega
  rw [getD_at hja]
  apply Classical.byContradiction
  intro hne
  have hpk : ∀ i (hi : i < a.length), pickOk (m[i]'(by omega)) (a.take i) a[i] = true := fun i hi => by
    have := hp i hi
    rwa [pickAt_eq (by omega) hi] at this
  have hm1 : a[j] = -1 := by
    rcases pick_parts (hpk j hja) with h | ⟨h1, h2, h3, _⟩
    · exact h
    · rw [getD_at h2] at h3
      exact absurd (hrow _ h2 (by omega)) h3
  have hno : ∀ i (hi : i < a.length), a[i] ≠ (k : Int) := fun i hi he => by
    by_cases hij : i = j
    · subst hij; exact hne he
    · rcases pick_parts (hpk i hi) with h | ⟨h1, h2, h3, _⟩
      · omega
      · rw [he, Int.toNat_natCast] at h3
        exact h3 (hcol i (by omega) hij)
  have hok2 : okAsg m (a.set j (k : Int)) = true := okAsg_true hok (by rw [List.length_set]; exact hl) fun i hi => by
    rw [List.length_set] at hi
    rw [pickAt_eq (show i < m.length by omega) (by rw [List.length_set]; exact hi)]
    by_cases hij : i = j
    · subst hij
      rw [List.getElem_set_self, List.take_set_of_le (Nat.le_refl _)]
      refine pick_mk (by omega) (by rw [Int.toNat_natCast]; exact hk) (by rw [Int.toNat_natCast, getD_at hk]; omega) fun hm => ?_
      obtain ⟨q, hq, e⟩ := List.mem_iff_getElem.1 hm
      rw [List.getElem_take] at e
      exact hno q (by rw [List.length_take] at hq; omega) e
    · rw [List.getElem_set_ne (fun e => hij e.symm)]
      rcases pick_parts (hpk i hi) with h | ⟨h1, h2, h3, h4⟩
      · rw [h]; exact pick_m1 rfl
      · refine pick_mk h1 h2 h3 fun hm => ?_
        obtain ⟨q, hq, e⟩ := List.mem_iff_getElem.1 hm
        rw [List.length_take, List.length_set] at hq
        rw [List.getElem_take] at e
        by_cases hqj : q = j
        · subst hqj
          rw [List.getElem_set_self] at e
          exact hno i hi e.symm
        · rw [List.getElem_set_ne (fun e => hqj e.symm)] at e
          apply h4
          rw [List.mem_iff_getElem]
          exact ⟨q, by rw [List.length_take]; omega, by rw [List.getElem_take]; exact e⟩
  have hle := asg_le m (a.set j (k : Int))
  rw [← b2] at hle
  unfold asgVal at hle
  rw [if_pos hok2, if_pos b1, List.length_set, sumTo_set m a _ hja, if_pos hja] at hle
  have v1 : valAt m a j = 0 := by
    unfold valAt
    rw [getD_at hja, hm1]
    rfl
  have v2 : valAt m (a.set j (k : Int)) j = m[j][k] := by
    unfold valAt
    rw [getD_at (show j < (a.set j (k : Int)).length by rw [List.length_set]; exact hja), List.getElem_set_self, if_pos (by omega), getD_at hj, Int.toNat_natCast, getD_at hk]
  omega
theorem asg_inj {m : List (List Int)} {a : List Int} (h : okAsg m a = true) {i j k : Nat} (hi : i < a.length) (hj : j < a.length) (e1 : a.getD i (-1) = (k : Int)) (e2 : a.getD j (-1) = (k : Int)) : i = j := by
  obtain ⟨_, hl, hp⟩ := okAsg_parts h
  rw [getD_at hi] at e1
  rw [getD_at hj] at e2
  have key : ∀ (i j : Nat) (hi : i < a.length) (hj : j < a.length), a[i] = (k : Int) → a[j] = (k : Int) → ¬ i < j := fun i j hi hj e1 e2 hlt => by
    have h9 := hp j hj
    rw [pickAt_eq (by omega) hj] at h9
    rcases pick_parts h9 with h | ⟨_, _, _, h4⟩
    · omega
    · apply h4
      rw [List.mem_iff_getElem]
      exact ⟨i, by rw [List.length_take]; omega, by rw [List.getElem_take, e1, e2]⟩
  have := key i j hi hj e1 e2
  have := key j i hj hi e2 e1
  omega
/-- the last row that points to k is the only one -/
theorem idTo_at {old : List Entity} {a : List Int} {j k : Nat} (hjo : j < old.length) (hj : a.getD j (-1) = (k : Int)) (hu : ∀ i, i < a.length → a.getD i (-1) = (k : Int) → i = j) : ∀ m, m ≤ a.length → j < m → idTo old a k m = old[j].id
  | 0, _, h => absurd h (Nat.not_lt_zero _)
  | m + 1, hm, h => by
    unfold idTo
    by_cases hq : a.getD m (-1) = (k : Int)
    · have := hu m (by omega) hq
      subst this
      rw [if_pos hq, getD_at hjo]
    · rw [if_neg hq]
      refine idTo_at hjo hj hu m (by omega) ?_
      by_cases hjm : j = m
      · subst hjm; exact absurd hj hq
      · omega
/-- a group that does not change keeps its identifier -/
theorem carry_keeps {old : List Entity} {g : List (List Int)} {n : Int} (h : okC old g n = true) {o e : Entity} (ho : o ∈ old) (he : e ∈ (carry old g n).1) (hm : o.members = e.members) : o.id = e.id := by
  obtain ⟨h1, h2, h3, h4⟩ := okC_parts h
  have hal := asC_len h1 h2
  have hob := (ents_ids h1).2
  rw [carry_yes h] at he
  dsimp only at he
  have he2 := (sortF_perm _).mem_iff.1 he
  obtain ⟨k, hk, hek, hid⟩ := outC_at old (asC old g) (gsC g) n (gsC g).length e he2
  rw [getD_at hk] at hek
  obtain ⟨j, hj, rfl⟩ := List.mem_iff_getElem.1 ho
  have hgp : areGroups (mems old) = true := by
    unfold areEnts at h1
    rw [Bool.and_eq_true] at h1
    exact h1.2
  have hgsp : areGroups (gsC g) = true := areGroups_perm (sortK_perm hdI g) h2
  obtain ⟨f1, f2⟩ := goS_facts _ _ hgp
  obtain ⟨f3, f4⟩ := goS_facts _ _ hgsp
  obtain ⟨e1, e2⟩ := ovMat_ok (mems old) (gsC g) (by rw [mems_len]; exact (ents_small h1).2) (gsC_small h2).1
  have hbest : asC old g = bestAsg ((mems old).map (ovRow (gsC g))) := by unfold asC; rw [e1]
  obtain ⟨m, hmm⟩ : ∃ m, m = (mems old).map (ovRow (gsC g)) := ⟨_, rfl⟩
  have hml : m.length = old.length := by rw [hmm, List.length_map, mems_len]
  have hrow : ∀ i (hi : i < m.length), m[i] = ovRow (gsC g) (old[i]'(by omega)).members := fun i hi => by
    subst hmm
    simp [mems]
  have hcell : ∀ i (hi : i < m.length) c (hc : c < m[i].length), m[i][c] = min 100 (cntIn (old[i]'(by omega)).members ((gsC g)[c]'(by have h9 := hrow i hi; rw [h9, ovRow_len] at hc; exact hc)) : Int) := fun i hi c hc => by
    have h9 := hrow i hi
    simp only [h9]
    simp [ovRow]
  rw [← hmm] at hbest e2
  have hjm : j < m.length := by omega
  have hlen : ∀ i (hi : i < m.length), m[i].length = (gsC g).length := fun i hi => by rw [hrow i hi, ovRow_len]
  have hgk : old[j].members = (gsC g)[k] := by rw [hm, hek]
  have hne : 0 < old[j].members.length := by
    rw [hgk]
    exact (f3 _ (List.getElem_mem hk)).1
  have hkj : k < m[j].length := by rw [hlen j hjm]; exact hk
  have hdisj : ∀ (i c : Nat) (hi : i < c) (hc : c < (gsC g).length), ∀ z ∈ (gsC g)[c], z ∉ (gsC g)[i]'(by omega) := fun i c hi hc => List.pairwise_iff_getElem.1 f4 i c (by omega) hc hi
  have hdo : ∀ (i c : Nat) (hi : i < c) (hc : c < old.length), ∀ z ∈ old[c].members, z ∉ (old[i]'(by omega)).members := fun i c hi hc => by
    have := List.pairwise_iff_getElem.1 f2 i c (by rw [mems_len]; omega) (by rw [mems_len]; exact hc) hi
    simpa [mems] using this
  have hjoin := best_joins e2 hjm hkj (by
      rw [hcell j hjm k hkj, ← hgk, cntIn_self]
      omega)
    (fun c hc hck => by
      rw [hcell j hjm c hc]
      rw [hlen j hjm] at hc
      rw [cntIn_none]
      · rfl
      · intro z hz hz2
        rw [hgk] at hz
        rcases Nat.lt_or_ge c k with hlt | hge
        · exact hdisj c k hlt hk z hz hz2
        · exact hdisj k c (by omega) hc z hz2 hz)
    (fun i hi hij => by
      rw [getD_at (by rw [hlen i hi]; exact hk), hcell i hi k (by rw [hlen i hi]; exact hk), ← hgk, cntIn_none]
      · rfl
      · intro z hz hz2
        rcases Nat.lt_or_ge i j with hlt | hge
        · exact hdo i j hlt hj z hz2 hz
        · exact hdo j i (by omega) (by omega) z hz hz2)
  rw [← hbest] at hjoin
  have hokA := (best_asg e2).1
  rw [← hbest] at hokA
  have hto := idTo_at hj hjoin (fun i hi e => asg_inj hokA hi (by omega) e hjoin) (asC old g).length (Nat.le_refl _) (by omega)
  have hpos := (hob _ (List.getElem_mem hj)).1
  rw [hid (by rw [hto]; omega), hto]
end Go.Proofs.Ytfcbapaojoecgab
