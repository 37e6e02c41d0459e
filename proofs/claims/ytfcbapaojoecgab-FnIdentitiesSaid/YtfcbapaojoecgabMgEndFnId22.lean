/-
  PLAIN LAW: CarryIdentities: the program's order of steps says the same.
-/
import Derived.Test.YtfcbapaojoecgabMgEndFnId21
import Derived.Test.YtfcbapaojoecgabMgEndFnId11

namespace Go.Proofs.Ytfcbapaojoecgab
open Go.RowKit

theorem entAt_lt {xs : List Entity} (h : areEnts xs = true) : ∀ {i j : Nat} (hi : i < xs.length) (hj : j < xs.length), i < j → xs[i].id < xs[j].id := by
  unfold areEnts at h
  rw [Bool.and_eq_true] at h
  have h1 := List.all_eq_true.1 h.1
  intro i j
  induction j with
  | zero => intro _ _ h; omega
  | succ j ih =>
    intro hi hj hij
    have h9 := h1 (j + 1) (List.mem_range.2 hj)
    unfold entAt at h9
    rw [idsOf_at hj, show j + 1 - 1 = j from rfl, idsOf_at (show j < xs.length by omega), Bool.and_eq_true] at h9
    have h10 : xs[j].id < xs[j + 1].id := by simpa using h9.2
    by_cases he : i = j
    · subst he; exact h10
    · have := ih hi (by omega) (by omega); omega
theorem okC_parts {old : List Entity} {g : List (List Int)} {n : Int} (h : okC old g n = true) : areEnts old = true ∧ areGroups g = true ∧ (1 ≤ n ∧ n ≤ 9991) ∧ ∀ e ∈ old, e.id < n := by
  unfold okC at h
  rw [Bool.and_eq_true, Bool.and_eq_true, Bool.and_eq_true] at h
  obtain ⟨⟨⟨h1, h2⟩, h3⟩, h4⟩ := h
  refine ⟨h1, h2, of_decide_eq_true h3, fun e he => ?_⟩
  obtain ⟨i, hi, rfl⟩ := List.mem_iff_getElem.1 he
  have h0 : old.length - 1 < old.length := by omega
  have h5 : ¬ n ≤ old[old.length - 1].id := by
    intro h6
    unfold lastId at h4
    rw [getD_at h0, decide_eq_true h6, decide_eq_true (show 0 < old.length by omega)] at h4
    cases h4
  by_cases hq : i = old.length - 1
  · subst hq; omega
  · have := entAt_lt h1 hi h0 (by omega); omega
theorem idTo_some {old : List Entity} {a : List Int} {k : Nat} : ∀ {m : Nat}, idTo old a k m ≠ 0 → ∃ i, i < m ∧ a.getD i (-1) = (k : Int) ∧ idTo old a k m = (old.getD i ⟨0, []⟩).id
  | 0, h => absurd rfl h
  | m + 1, h => by
    unfold idTo at h ⊢
    by_cases hq : a.getD m (-1) = (k : Int)
    · rw [if_pos hq]; exact ⟨m, by omega, hq, rfl⟩
    · rw [if_neg hq] at h ⊢
      obtain ⟨i, h1, h2, h3⟩ := idTo_some h
      exact ⟨i, by omega, h2, h3⟩
/-- where an identifier comes from -/
def srcC (old : List Entity) (a : List Int) (gs : List (List Int)) (n hi : Int) (m : Nat) (e : Entity) : Prop :=
  (∃ k, k < m ∧ ∃ i, ∃ h : i < old.length, i < a.length ∧ a.getD i (-1) = (k : Int) ∧ e.id = old[i].id ∧ e.members = gs.getD k []) ∨ (n ≤ e.id ∧ e.id < hi)
theorem outC_src {old : List Entity} {a : List Int} (gs : List (List Int)) {n : Int} (hp : areEnts old = true) (hn : ∀ e ∈ old, e.id < n) (hal : a.length ≤ old.length) : ∀ m,
    (∀ e ∈ (outC old a gs n m).1, srcC old a gs n (outC old a gs n m).2 m e) ∧ (outC old a gs n m).1.Pairwise fun x y => x.id ≠ y.id
  | 0 => ⟨fun _ h => (by cases h), List.Pairwise.nil⟩
  | m + 1 => by
    obtain ⟨h1, h2⟩ := outC_src gs hp hn hal m
    obtain ⟨_, hlo, _⟩ := outC_len old a gs n m
    have mono : ∀ e hi, (outC old a gs n m).2 ≤ hi → srcC old a gs n (outC old a gs n m).2 m e → srcC old a gs n hi (m + 1) e := fun e hi hle h => by
      rcases h with ⟨k, hk, h⟩ | h
      · exact .inl ⟨k, by omega, h⟩
      · exact .inr ⟨h.1, by omega⟩
    show (∀ e ∈ (stepC old a gs (outC old a gs n m) m).1, srcC old a gs n (stepC old a gs (outC old a gs n m) m).2 (m + 1) e) ∧ _
    by_cases hz : idTo old a m a.length = 0
    · have e1 : stepC old a gs (outC old a gs n m) m = ((outC old a gs n m).1 ++ [⟨(outC old a gs n m).2, gs.getD m []⟩], (outC old a gs n m).2 + 1) := by unfold stepC; rw [if_pos hz]
      have e2 : outC old a gs n (m + 1) = ((outC old a gs n m).1 ++ [⟨(outC old a gs n m).2, gs.getD m []⟩], (outC old a gs n m).2 + 1) := e1
      rw [e1, e2]
      refine ⟨fun e he => ?_, List.pairwise_append.2 ⟨h2, List.pairwise_singleton _ _, fun x hx y hy => ?_⟩⟩
      · rcases List.mem_append.1 he with he | he
        · exact mono e _ (by show _ ≤ (outC old a gs n m).2 + 1; omega) (h1 e he)
        · rw [List.mem_singleton] at he
          subst he
          exact .inr ⟨hlo, by show (outC old a gs n m).2 < (outC old a gs n m).2 + 1; omega⟩
      · rw [List.mem_singleton] at hy
        subst hy
        show x.id ≠ (outC old a gs n m).2
        rcases h1 x hx with ⟨k, hk, i, hi, _, _, h5, _⟩ | h
        · have := hn _ (List.getElem_mem hi); omega
        · omega
    · have e1 : stepC old a gs (outC old a gs n m) m = ((outC old a gs n m).1 ++ [⟨idTo old a m a.length, gs.getD m []⟩], (outC old a gs n m).2) := by unfold stepC; rw [if_neg hz]
      have e2 : outC old a gs n (m + 1) = ((outC old a gs n m).1 ++ [⟨idTo old a m a.length, gs.getD m []⟩], (outC old a gs n m).2) := e1
      rw [e1, e2]
      obtain ⟨i, hi, hai, hid⟩ := idTo_some hz
      have hio : i < old.length := by omega
      rw [getD_at hio] at hid
      refine ⟨fun e he => ?_, List.pairwise_append.2 ⟨h2, List.pairwise_singleton _ _, fun x hx y hy => ?_⟩⟩
      · rcases List.mem_append.1 he with he | he
        · exact mono e _ (Int.le_refl _) (h1 e he)
        · rw [List.mem_singleton] at he
          subst he
          exact .inl ⟨m, by omega, i, hio, hi, hai, hid, rfl⟩
      · rw [List.mem_singleton] at hy
        subst hy
        show x.id ≠ idTo old a m a.length
        rw [hid]
        rcases h1 x hx with ⟨k, hk, j, hj, _, haj, h5, _⟩ | h
        · rw [h5]
          intro he
          have hij : i ≠ j := fun e => by subst e; rw [hai] at haj; omega
          rcases Nat.lt_or_ge i j with hlt | hge
          · have := entAt_lt hp hio hj hlt; omega
          · have := entAt_lt hp hj hio (by omega); omega
        · have := hn _ (List.getElem_mem hio); omega
theorem pairwise_inj {α : Type} {f : α → Int} {xs : List α} (h : xs.Pairwise fun x y => f x ≠ f y) : ∀ x ∈ xs, ∀ y ∈ xs, f x = f y → x = y := by
  induction h with
  | nil => intro x hx; cases hx
  | cons h1 h2 ih =>
    intro x hx y hy e
    rcases List.mem_cons.1 hx with rfl | hx'
    · rcases List.mem_cons.1 hy with rfl | hy'
      · rfl
      · exact absurd e (h1 y hy')
    · rcases List.mem_cons.1 hy with rfl | hy'
      · exact absurd e.symm (h1 x hx')
      · exact ih x hx' y hy' e
/-- the program's order of groups is the reference's -/
theorem rows_eq {g ys : List (List Int)} (h : areGroups g = true) (hp : ys.Perm g) (hs : ys.Pairwise fun x y => ¬ y < x) : ys = sortK hdI g := by
  have hmem : ∀ x ∈ ys, x ∈ g := fun x hx => hp.mem_iff.1 hx
  refine sortedK_eq hdI ?_ (sortK_sorted hdI g) (hp.trans (sortK_perm hdI g).symm) fun x hx y hy e => heads_ne h x (hmem x hx) y (hmem y hy) e
  unfold SortedK
  refine List.Pairwise.imp_of_mem ?_ hs
  intro x y hx hy hn
  have hx0 := ((goS_facts _ _ h).1 x (hmem x hx)).1
  have hy0 := ((goS_facts _ _ h).1 y (hmem y hy)).1
  apply Classical.byContradiction
  intro hlt
  apply hn
  cases x with
  | nil => simp at hx0
  | cons a x =>
    cases y with
    | nil => simp at hy0
    | cons b y =>
      rw [List.cons_lt_cons_iff]
      left
      have : ¬ a ≤ b := hlt
      omega
/-- the program's order of entities is the reference's -/
theorem ents_eq {old : List Entity} {g : List (List Int)} {n : Int} (h : okC old g n = true) {a : List Int} (gs : List (List Int)) (hal : a.length ≤ old.length) {m : Nat} {ys : List Entity} (hp : ys.Perm (outC old a gs n m).1) (hs : SortedK Entity.id ys) : ys = sortF (outC old a gs n m).1 := by
  obtain ⟨h1, _, _, h4⟩ := okC_parts h
  have hd := (outC_src gs h1 h4 hal m).2
  exact sortedK_eq Entity.id hs (sortF_sorted _) (hp.trans (sortF_perm _).symm) fun x hx y hy e => pairwise_inj (f := Entity.id) hd x (hp.mem_iff.1 hx) y (hp.mem_iff.1 hy) e
/-- the identifiers that the first loop lays -/
def idsAt (old : List Entity) (a : List Int) (m i : Nat) : List Int := (List.range m).map fun k => idTo old a k i
theorem idsAt_len (old : List Entity) (a : List Int) (m i : Nat) : (idsAt old a m i).length = m := by simp [idsAt]
theorem idsAt_zero (old : List Entity) (a : List Int) (m : Nat) : idsAt old a m 0 = List.replicate m 0 := by
  unfold idsAt
  apply List.ext_getElem (by simp)
  intro i h1 h2
  simp [idTo]
theorem idsAt_set {old : List Entity} {a : List Int} {m i : Nat} (hi : i < a.length) (ho : i < old.length) (h0 : 0 ≤ a[i]) : idsAt old a m (i + 1) = (idsAt old a m i).set a[i].toNat old[i].id := by
  apply List.ext_getElem (by simp [idsAt])
  intro k h1 h2
  have hk : k < m := by simpa [idsAt] using h1
  simp only [idsAt, List.getElem_map, List.getElem_range, List.getElem_set]
  show (if a.getD i (-1) = (k : Int) then (old.getD i ⟨0, []⟩).id else idTo old a k i) = _
  rw [getD_at hi, getD_at ho]
  by_cases hq : a[i] = (k : Int)
  · rw [if_pos hq, if_pos (by omega)]
  · rw [if_neg hq, if_neg (by omega)]
theorem idsAt_skip {old : List Entity} {a : List Int} {m i : Nat} (hi : i < a.length) (h0 : ¬ 0 ≤ a[i]) : idsAt old a m (i + 1) = idsAt old a m i := by
  apply List.ext_getElem (by simp [idsAt])
  intro k h1 h2
  simp only [idsAt, List.getElem_map, List.getElem_range]
  show (if a.getD i (-1) = (k : Int) then (old.getD i ⟨0, []⟩).id else idTo old a k i) = _
  rw [getD_at hi, if_neg (by omega)]
theorem pickOk_bd {r prev : List Int} {x : Int} (h : pickOk r prev x = true) : -1 ≤ x ∧ x < r.length := by
  unfold pickOk at h
  rw [Bool.or_eq_true] at h
  rcases h with h | h
  · have : x = -1 := by simpa using h
    omega
  · rw [Bool.and_eq_true, Bool.and_eq_true] at h
    have := of_decide_eq_true h.1.1
    omega
/-- parts lie within the groups -/
theorem asC_bd {old : List Entity} {g : List (List Int)} (h : areEnts old = true) (k : areGroups g = true) : ∀ x ∈ asC old g, -1 ≤ x ∧ x < (gsC g).length := by
  obtain ⟨e1, e2⟩ := ovMat_ok (mems old) (gsC g) (by rw [mems_len]; exact (ents_small h).2) (gsC_small k).1
  have hok := (best_asg (m := ovMat (mems old) (gsC g)) (by rw [e1]; exact e2)).1
  obtain ⟨p1, p2, p3⟩ := okAsg_parts hok
  intro x hx
  obtain ⟨j, hj, rfl⟩ := List.mem_iff_getElem.1 hx
  have h9 := p3 j hj
  unfold asC at hj
  unfold pickAt at h9
  rw [getD_at hj] at h9
  have hjm : j < (ovMat (mems old) (gsC g)).length := by rw [← p2]; exact hj
  rw [getD_at hjm] at h9
  have hrl : (ovMat (mems old) (gsC g))[j].length = (gsC g).length := by
    have h7 : (ovMat (mems old) (gsC g))[j] ∈ ovMat (mems old) (gsC g) := List.getElem_mem _
    have h8 : ∀ r ∈ ovMat (mems old) (gsC g), r ∈ (mems old).map (ovRow (gsC g)) := fun r hr => by rw [← e1]; exact hr
    obtain ⟨y, _, hy⟩ := List.mem_map.1 (h8 _ h7)
    rw [← hy, ovRow_len]
  have := pickOk_bd h9
  rw [hrl] at this
  exact this
theorem Bld.size_le {α : Type} {R : RepO α} {w : World} {base : Nat} {e : TypeId} {v : Value} {xs : List α} {F : List Nat} (h : Bld R w base e v xs F) (h0 : 0 < xs.length) : base ≤ w.heap.size := by
  obtain ⟨cs, h1, _⟩ := h
  rcases h1.2 with ⟨_, hn⟩ | ⟨g', cap, cur, _, hb, hh, _⟩
  · omega
  · have := block_lt hh; omega
end Go.Proofs.Ytfcbapaojoecgab
