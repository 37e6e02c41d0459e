/-
  SEVERAL SMALL TEXTS LAID TOGETHER: UniP, Bc, SlE, Reg, Draw, ChkI, Ref, DrawM, Big, FnCluP, ChkS, DrwM, DrwC, DrwP.
-/
import Derived.Test.YtidchfncfcckiaaGreatMgEndClu4
import Derived.Test.YtidchfncfcckiaaGreatMgEndClu10
import Derived.Test.YtidchfncfcckiaaGreatMgEndClu7
import Derived.Test.YtidchfncfcckiaaGreatMgEndClu12
import Derived.Test.YtidchfncfcckiaaGreatMgEndClu0
import Derived.StillTail
import Derived.Deep.Quiet
import Derived.Laws.Bits128
import Derived.Test.YtidchfncfcckiaaGreatMgEndClu8
import Derived.Deep.RegionHeld3
import Derived.Test.YtidchfncfcckiaaGreatMgEndClu2
import Derived.Test.YtidchfncfcckiaaGreatMgEndClu3

namespace Go.Proofs.YtidchfncfcckiaaGreat
open Go.RowKit

theorem sumN_add (f g : Nat → Int) : ∀ n, sumN (fun i => f i + g i) n = sumN f n + sumN g n
  | 0 => rfl
  | n + 1 => by rw [sumN, sumN, sumN, sumN_add f g n]; omega
theorem sumN_mono {f g : Nat → Int} : ∀ n, (∀ i, i < n → f i ≤ g i) → sumN f n ≤ sumN g n
  | 0, _ => Int.le_refl _
  | n + 1, h => by
    have := sumN_mono (f := f) (g := g) n fun i hi => h i (by omega)
    have := h n (by omega)
    rw [sumN, sumN]; omega
theorem sumN_zero : ∀ n, sumN (fun _ => 0) n = 0
  | 0 => rfl
  | n + 1 => by rw [sumN, sumN_zero n]; rfl
theorem sumN_swap (f : Nat → Nat → Int) (K : Nat) : ∀ n, sumN (fun j => sumN (f j) n) K = sumN (fun i => sumN (fun j => f j i) K) n
  | 0 => by rw [sumN]; exact sumN_zero K
  | n + 1 => by
    rw [sumN, ← sumN_swap f K n, ← sumN_add]
    exact sumN_congr K fun j _ => rfl
theorem sumN_pick (h : Nat → Int) (c : Nat) : ∀ K, sumN (fun j => if c = j then h j else 0) K = if c < K then h c else 0
  | 0 => by rw [sumN, if_neg (Nat.not_lt_zero c)]
  | K + 1 => by
    rw [sumN, sumN_pick h c K]
    by_cases e : c = K
    · subst e
      rw [if_neg (Nat.lt_irrefl c), if_pos rfl, if_pos (Nat.lt_succ_self c)]
      exact Int.zero_add _
    · rw [if_neg e]
      by_cases hc : c < K
      · rw [if_pos hc, if_pos (by omega)]; omega
      · rw [if_neg hc, if_neg (by omega)]; rfl

/-- the labels of some items -/
def restrL (q it : List Int) : List Int := it.map fun x => q.getD x.toNat 0
theorem restrL_len (q it : List Int) : (restrL q it).length = it.length := by unfold restrL; rw [List.length_map]
theorem restrL_at (q : List Int) {it : List Int} {i : Nat} (hi : i < it.length) : (restrL q it).getD i 0 = q.getD (it.getD i 0).toNat 0 := by
  unfold restrL
  rw [getD_getElem (by rw [List.length_map]; exact hi), List.getElem_map, getD_getElem (d := 0) hi]
/-- a sum over the pairs of some items -/
def pairS (f : Nat → Nat → Int) (it : List Int) : Int := sumN (fun a => sumN (fun b => f (it.getD a 0).toNat (it.getD b 0).toNat) a) it.length
theorem pairS_snoc (f : Nat → Nat → Int) (it : List Int) (x : Int) : pairS f (it ++ [x]) = pairS f it + sumN (fun b => f x.toNat (it.getD b 0).toNat) it.length := by
  unfold pairS
  rw [List.length_append, List.length_singleton, sumN]
  congr 1
  · refine sumN_congr _ fun a ha => sumN_congr _ fun b hb => ?_
    rw [getD_app_l ha, getD_app_l (by omega)]
  · refine sumN_congr _ fun b hb => ?_
    rw [getD_app_at, getD_app_l hb]
theorem cost_restr (m : List (List Int)) (q it : List Int) : costP (subM m it) (restrL q it) = pairS (costPair m q) it := by
  unfold costP costN pairS
  rw [restrL_len]
  refine sumN_congr _ fun a ha => sumN_congr _ fun b hb => ?_
  unfold costPair
  rw [restrL_at q ha, restrL_at q (by omega), subM_ent ha (by omega)]
theorem items_sum (P : List Int) (j : Nat) (g : Nat → Int) : ∀ k, sumN (fun b => g ((itemsOf P k j).getD b 0).toNat) (itemsOf P k j).length = sumN (fun t => if P.getD t 0 = (j : Int) then g t else 0) k
  | 0 => rfl
  | k + 1 => by
    have ih := items_sum P j g k
    rw [itemsOf_succ, sumN, ← ih]
    by_cases h : P.getD k 0 = (j : Int)
    · rw [if_pos h, if_pos h, List.length_append, List.length_singleton, sumN, getD_app_at, Int.toNat_natCast]
      congr 1
      exact sumN_congr _ fun b hb => by rw [getD_app_l hb]
    · rw [if_neg h, if_neg h]; omega
theorem pair_items (P : List Int) (j : Nat) (f : Nat → Nat → Int) : ∀ k, pairS f (itemsOf P k j) = sumN (fun i => if P.getD i 0 = (j : Int) then sumN (fun t => if P.getD t 0 = (j : Int) then f i t else 0) i else 0) k
  | 0 => rfl
  | k + 1 => by
    have ih := pair_items P j f k
    rw [itemsOf_succ, sumN, ← ih]
    by_cases h : P.getD k 0 = (j : Int)
    · rw [if_pos h, if_pos h, pairS_snoc, Int.toNat_natCast, items_sum P j (f k) k]
    · rw [if_neg h, if_neg h]; omega
/-- all blocks together: the pairs within blocks -/
theorem blocks_sum {P : List Int} {K : Nat} (f : Nat → Nat → Int) {n : Nat} (hP : ∀ i, i < n → 0 ≤ P.getD i 0 ∧ P.getD i 0 < K) :
    sumN (fun j => pairS f (itemsOf P n j)) K = sumN (fun i => sumN (fun t => if P.getD t 0 = P.getD i 0 then f i t else 0) i) n := by
  rw [sumN_congr K fun j _ => pair_items P j f n, sumN_swap]
  refine sumN_congr n fun i hi => ?_
  obtain ⟨c, hc⟩ : ∃ c : Nat, P.getD i 0 = c := ⟨(P.getD i 0).toNat, by have := hP i hi; omega⟩
  have hcK : c < K := by have := hP i hi; omega
  rw [sumN_congr K (g := fun j => if c = j then sumN (fun t => if P.getD t 0 = (j : Int) then f i t else 0) i else 0) fun j _ => ?_, sumN_pick, if_pos hcK, hc]
  show (if P.getD i 0 = (j : Int) then _ else 0) = _
  rw [hc]
  by_cases e : c = j
  · rw [if_pos e, if_pos (by omega)]
  · rw [if_neg e, if_neg (by omega)]

/-! ### What a clustering's labels are -/
theorem items_mem {P : List Int} {n j x : Nat} (hx : x < n) (h : P.getD x 0 = (j : Int)) : ∃ i, i < (itemsOf P n j).length ∧ (itemsOf P n j).getD i 0 = (x : Int) := by
  refine mem_getD ?_
  unfold itemsOf
  rw [List.mem_map]
  exact ⟨x, List.mem_filter.2 ⟨List.mem_range.2 hx, by simpa using h⟩, rfl⟩
theorem labSt_out {it part : List Int} {j : Nat} {L : List Int} {n : Nat} (hI : ItemsB n it) (hL : L.length = n) : ∀ i, i ≤ it.length → ∀ x : Nat, (∀ a, a < i → it.getD a 0 ≠ (x : Int)) → (labSt it part j L i).getD x 0 = L.getD x 0
  | 0, _, _, _ => rfl
  | i + 1, hi, x, h => by
    have hb := hI.bd i (by omega)
    rw [labSt, getD_set _ _ _ _ (by rw [labSt_len, hL]; omega), if_neg fun e => h i (by omega) (by omega)]
    exact labSt_out hI hL i (by omega) x fun a ha => h a (by omega)
theorem labSt_in {it part : List Int} {j : Nat} {L : List Int} {n : Nat} (hI : ItemsB n it) (hL : L.length = n) : ∀ i, i ≤ it.length → ∀ a, a < i → (labSt it part j L i).getD (it.getD a 0).toNat 0 = (j : Int) * 8 + part.getD a 0
  | 0, _, a, ha => absurd ha (Nat.not_lt_zero a)
  | i + 1, hi, a, ha => by
    have hb := hI.bd i (by omega)
    have hb2 := hI.bd a (by omega)
    rw [labSt, getD_set _ _ _ _ (by rw [labSt_len, hL]; omega)]
    by_cases e : a = i
    · subst e; rw [if_pos rfl]
    · rw [if_neg fun h9 => e (hI.inj (by omega) (by omega) (by omega))]
      exact labSt_in hI hL i (by omega) a (by omega)
/-- a part of the search, its items, what they are -/
structure PartIs (m : List (List Int)) (l : List Constraint) (j : Nat) (it : List Int) : Prop where
  eq : (blocksP (searchP m l)).getD j [] = it
  items : it = itemsOf (searchP m l) m.length j
  isB : ItemsB m.length it
  wm : WM (subM m it)
  con : consistB (subM m it).length (restrC l it) = true
theorem part_is {m : List (List Int)} {l : List Constraint} (hm : WM m) (h : consistB m.length l = true) {j : Nat} (hj : j < (blocksP (searchP m l)).length) : PartIs m l j ((blocksP (searchP m l)).getD j []) := by
  have ha : areConB m.length l = true := by unfold consistB at h; rw [Bool.and_eq_true] at h; exact h.1
  obtain ⟨f1, f2, _⟩ := searchP_facts (wmB_yes hm) ha
  obtain ⟨p1, p2, p3⟩ := part_of hm h hj
  obtain ⟨_, h2⟩ := blkN_facts (partB_iff.1 f1).1 (searchP m l).length (Nat.le_refl _)
  exact ⟨rfl, by rw [← f2]; exact h2 j hj, p1, p2, by rw [subM_len]; exact p3⟩
theorem part_count {m : List (List Int)} {l : List Constraint} (hm : WM m) (h : consistB m.length l = true) : ∀ x, x < m.length → 0 ≤ (searchP m l).getD x 0 ∧ (searchP m l).getD x 0 < ((blocksP (searchP m l)).length : Nat) := fun x hx => by
  have ha : areConB m.length l = true := by unfold consistB at h; rw [Bool.and_eq_true] at h; exact h.1
  obtain ⟨f1, f2, _⟩ := searchP_facts (wmB_yes hm) ha
  obtain ⟨h1, _⟩ := blkN_facts (partB_iff.1 f1).1 (searchP m l).length (Nat.le_refl _)
  rw [List.take_length] at h1
  show _ ∧ _ < ((blkN (searchP m l) (searchP m l).length).length : Int)
  rw [h1]
  exact (partB_iff.1 f1).1.lt (getD_mem (by rw [f2]; exact hx))
noncomputable def pAt (m : List (List Int)) (l : List Constraint) (j : Nat) : List Int := partP (subM m ((blocksP (searchP m l)).getD j [])) (restrC l ((blocksP (searchP m l)).getD j []))
theorem labN_at {m : List (List Int)} {l : List Constraint} (hm : WM m) (h : consistB m.length l = true) : ∀ K, K ≤ (blocksP (searchP m l)).length → ∀ j, j < K → ∀ a, a < ((blocksP (searchP m l)).getD j []).length →
    (labN m l (blocksP (searchP m l)) K).getD (((blocksP (searchP m l)).getD j []).getD a 0).toNat 0 = (j : Int) * 8 + (pAt m l j).getD a 0
  | 0, _, j, hj => absurd hj (Nat.not_lt_zero j)
  | K + 1, hK, j, hj => fun a ha => by
    have pK := part_is hm h (j := K) (by omega)
    have pj := part_is hm h (j := j) (by omega)
    have hlen := labN_len m l (blocksP (searchP m l)) K
    show (labSt ((blocksP (searchP m l)).getD K []) (pAt m l K) K (labN m l (blocksP (searchP m l)) K) ((blocksP (searchP m l)).getD K []).length).getD _ 0 = _
    by_cases e : j = K
    · subst e
      exact labSt_in pK.isB hlen _ (Nat.le_refl _) a ha
    · have hb := pj.isB.bd a ha
      have hx : (searchP m l).getD (((blocksP (searchP m l)).getD j []).getD a 0).toNat 0 = (j : Int) := by
        have ha2 : areConB m.length l = true := by unfold consistB at h; rw [Bool.and_eq_true] at h; exact h.1
        exact (blocks_row (partB_iff.1 (searchP_facts (wmB_yes hm) ha2).1).1 (x := j) (by omega)).2 a ha
      rw [labSt_out pK.isB hlen _ (Nat.le_refl _) _ fun b hb9 e9 => by
        have hy : (searchP m l).getD (((blocksP (searchP m l)).getD K []).getD b 0).toNat 0 = (K : Int) := by
          have ha2 : areConB m.length l = true := by unfold consistB at h; rw [Bool.and_eq_true] at h; exact h.1
          exact (blocks_row (partB_iff.1 (searchP_facts (wmB_yes hm) ha2).1).1 (x := K) (by omega)).2 b hb9
        rw [e9, Int.toNat_natCast, hx] at hy
        omega]
      exact labN_at hm h K (by omega) j (by omega) a ha
/-- the label of an item: its part, then its label there -/
theorem labP_at {m : List (List Int)} {l : List Constraint} (hm : WM m) (h : consistB m.length l = true) {x : Nat} (hx : x < m.length) :
    ∃ j a, j < (blocksP (searchP m l)).length ∧ a < ((blocksP (searchP m l)).getD j []).length ∧ (searchP m l).getD x 0 = (j : Int) ∧ ((blocksP (searchP m l)).getD j []).getD a 0 = (x : Int) ∧ (labP m l).getD x 0 = (j : Int) * 8 + (pAt m l j).getD a 0 := by
  have hc := part_count hm h x hx
  obtain ⟨j, hj⟩ : ∃ j : Nat, (searchP m l).getD x 0 = j := ⟨((searchP m l).getD x 0).toNat, by omega⟩
  have hjl : j < (blocksP (searchP m l)).length := by omega
  have pj := part_is hm h hjl
  obtain ⟨a, ha, hax⟩ := items_mem hx hj
  rw [← pj.items] at ha hax
  have h9 := labN_at hm h _ (Nat.le_refl _) j hjl a ha
  rw [hax, Int.toNat_natCast] at h9
  exact ⟨j, a, hjl, ha, hj, hax, h9⟩
theorem pAt_bd {m : List (List Int)} {l : List Constraint} (hm : WM m) (h : consistB m.length l = true) {j : Nat} (hj : j < (blocksP (searchP m l)).length) {a : Nat} (ha : a < ((blocksP (searchP m l)).getD j []).length) : 0 ≤ (pAt m l j).getD a 0 ∧ (pAt m l j).getD a 0 < 8 := by
  have pj := part_is hm h hj
  obtain ⟨g1, g2, _⟩ := partP_facts pj.wm pj.con
  rw [subM_len] at g2
  have ha2 : a < (pAt m l j).length := by unfold pAt; omega
  rw [getD_getElem ha2]
  exact RG.bd8 g1 ha2
theorem labP_len (m : List (List Int)) (l : List Constraint) : (labP m l).length = m.length := labN_len _ _ _ _
/-- items with one label lie in one part -/
theorem labP_part {m : List (List Int)} {l : List Constraint} (hm : WM m) (h : consistB m.length l = true) {x y : Nat} (hx : x < m.length) (hy : y < m.length) (e : (labP m l).getD x 0 = (labP m l).getD y 0) : (searchP m l).getD x 0 = (searchP m l).getD y 0 := by
  obtain ⟨j, a, hj, ha, e1, e2, e3⟩ := labP_at hm h hx
  obtain ⟨k, b, hk, hb, f1, f2, f3⟩ := labP_at hm h hy
  have h1 := pAt_bd hm h hj ha
  have h2 := pAt_bd hm h hk hb
  rw [e1, f1]
  omega
/-- within a part the labels are the part's -/
theorem labP_restr {m : List (List Int)} {l : List Constraint} (hm : WM m) (h : consistB m.length l = true) {j : Nat} (hj : j < (blocksP (searchP m l)).length) : SameK (restrL (labP m l) ((blocksP (searchP m l)).getD j [])) (pAt m l j) := by
  have pj := part_is hm h hj
  obtain ⟨g1, g2, _⟩ := partP_facts pj.wm pj.con
  rw [subM_len] at g2
  have hv : ∀ a, a < ((blocksP (searchP m l)).getD j []).length → (restrL (labP m l) ((blocksP (searchP m l)).getD j [])).getD a 0 = (j : Int) * 8 + (pAt m l j).getD a 0 := fun a ha => by
    rw [restrL_at _ ha]
    exact labN_at hm h _ (Nat.le_refl _) j hj a ha
  refine ⟨by rw [restrL_len]; exact g2.symm, fun a b ha hb => ?_⟩
  rw [restrL_len] at ha hb
  rw [hv a ha, hv b hb]
  omega
theorem keeps_iff {p : List Int} {l : List Constraint} : keepsB p l = true ↔ ∀ c ∈ l, 0 ≤ c.a ∧ c.a < p.length ∧ 0 ≤ c.b ∧ c.b < p.length ∧ (p.getD c.a.toNat 0 = p.getD c.b.toNat 0 ↔ c.same = true) := by
  unfold keepsB
  rw [List.all_eq_true]
  constructor
  · intro h c hc
    have := h c hc
    unfold keepC at this
    simp only [Bool.and_eq_true, decide_eq_true_eq, beq_iff_eq] at this
    refine ⟨this.1.1.1, this.1.1.2, this.1.2.1, this.1.2.2, ?_⟩
    rw [← this.2, beq_iff_eq]
  · intro h c hc
    obtain ⟨h1, h2, h3, h4, h5⟩ := h c hc
    unfold keepC
    simp only [Bool.and_eq_true, decide_eq_true_eq, beq_iff_eq]
    refine ⟨⟨⟨h1, h2⟩, h3, h4⟩, ?_⟩
    rw [Bool.eq_iff_iff, beq_iff_eq]
    exact h5
/-- what keeps all constraints keeps a part's -/
theorem keeps_restr {q : List Int} {l : List Constraint} {it : List Int} (h : keepsB q l = true) : keepsB (restrL q it) (restrC l it) = true := by
  rw [keeps_iff] at h ⊢
  intro d hd
  obtain ⟨c, hc, i, k, hi, hk, _, _, e1, e2, rfl⟩ := restr_mem.1 hd
  obtain ⟨h1, h2, h3, h4, h5⟩ := h c hc
  dsimp only
  rw [Int.toNat_natCast, Int.toNat_natCast, restrL_len, restrL_at q hi, restrL_at q hk, e1, e2]
  exact ⟨by omega, by omega, by omega, by omega, h5⟩
/-- the labels keep the constraints -/
theorem labP_keeps {m : List (List Int)} {l : List Constraint} (hm : WM m) (h : consistB m.length l = true) : keepsB (labP m l) l = true := by
  have ha : areConB m.length l = true := by unfold consistB at h; rw [Bool.and_eq_true] at h; exact h.1
  obtain ⟨f1, f2, _, f4⟩ := searchP_facts (wmB_yes hm) ha
  have hcc := (areCon_iff.1 ha).2.2.2
  rw [keeps_iff]
  intro c hc
  have hb := hcc c hc
  rw [labP_len]
  refine ⟨hb.1, hb.2.1, hb.2.2.1, hb.2.2.2.1, ?_⟩
  obtain ⟨x, hx⟩ : ∃ x : Nat, c.a = x := ⟨c.a.toNat, by omega⟩
  obtain ⟨y, hy⟩ : ∃ y : Nat, c.b = y := ⟨c.b.toNat, by omega⟩
  rw [hx, hy, Int.toNat_natCast, Int.toNat_natCast]
  have hxn : x < m.length := by omega
  have hyn : y < m.length := by omega
  obtain ⟨j, a, hj, hja, e1, e2, e3⟩ := labP_at hm h hxn
  obtain ⟨k, b, hk, hkb, g1, g2, g3⟩ := labP_at hm h hyn
  have b1 := pAt_bd hm h hj hja
  have b2 := pAt_bd hm h hk hkb
  by_cases e : j = k
  · subst e
    have pj := part_is hm h hj
    obtain ⟨q1, q2, q3, _⟩ := partP_facts pj.wm pj.con
    have hd : (⟨(a : Int), (b : Int), c.same⟩ : Constraint) ∈ restrC l ((blocksP (searchP m l)).getD j []) := by
      have hia : ∀ {z : Int} {i : Nat}, i < ((blocksP (searchP m l)).getD j []).length → ((blocksP (searchP m l)).getD j []).getD i 0 = z → idxI z ((blocksP (searchP m l)).getD j []) = (i : Int) := fun {z i} hi hz => by
        rcases idxI_cases z ((blocksP (searchP m l)).getD j []) with ⟨_, h2⟩ | ⟨t, ht, h2, h3, _⟩
        · exact absurd (by rw [← hz]; exact getD_mem hi) h2
        · rw [h2, pj.isB.inj ht hi (by rw [h3, hz])]
      exact restr_mem.2 ⟨c, hc, a, b, hja, hkb, hia hja (by rw [e2, hx]), hia hkb (by rw [g2, hy]), by rw [e2, hx], by rw [g2, hy], rfl⟩
    have hk9 := (keeps_iff.1 q3 _ hd).2.2.2.2
    dsimp only at hk9
    rw [Int.toNat_natCast, Int.toNat_natCast] at hk9
    rw [e3, g3, ← hk9]
    show _ ↔ (pAt m l j).getD a 0 = (pAt m l j).getD b 0
    omega
  · have hs : c.same = false := by
      cases hs : c.same with
      | false => rfl
      | true =>
        have := f4 x y hxn hyn (.one ⟨c, hc, hs, .inl ⟨hx, hy⟩⟩)
        rw [e1, g1] at this
        omega
    rw [hs, e3, g3]
    refine ⟨fun e9 => by omega, fun e9 => by cases e9⟩
/-- the cost is that of the parts -/
theorem labP_cost {m : List (List Int)} {l : List Constraint} (hm : WM m) (h : consistB m.length l = true) :
    costP m (labP m l) = sumN (fun j => costP (subM m ((blocksP (searchP m l)).getD j [])) (pAt m l j)) (blocksP (searchP m l)).length := by
  have ha : areConB m.length l = true := by unfold consistB at h; rw [Bool.and_eq_true] at h; exact h.1
  obtain ⟨f1, f2, f3, _⟩ := searchP_facts (wmB_yes hm) ha
  have h2 := blocks_sum (costPair m (labP m l)) (part_count hm h)
  rw [sumN_congr (g := fun j => pairS (costPair m (labP m l)) (itemsOf (searchP m l) m.length j)) (blocksP (searchP m l)).length fun j hj => ?_, h2]
  · unfold costP costN
    rw [labP_len]
    refine sumN_congr _ fun i hi => sumN_congr _ fun k hk => ?_
    by_cases e : (searchP m l).getD k 0 = (searchP m l).getD i 0
    · rw [if_pos e]
    · rw [if_neg e]
      unfold costPair
      rw [if_neg fun e9 => e (labP_part hm h (by omega) hi e9.symm)]
      have h9 : ¬ 0 < ent m i k := fun h9 => e (f3 i k hi (by omega) h9).symm
      omega
  · have pj := part_is hm h hj
    rw [← pj.items, ← cost_restr, cost_same _ (labP_restr hm h hj)]
/-- no partition costs less than its parts -/
theorem cost_parts {m : List (List Int)} {l : List Constraint} (hm : WM m) (h : consistB m.length l = true) {q : List Int} (hq : q.length = m.length) :
    sumN (fun j => costP (subM m ((blocksP (searchP m l)).getD j [])) (restrL q ((blocksP (searchP m l)).getD j []))) (blocksP (searchP m l)).length ≤ costP m q := by
  have h2 := blocks_sum (costPair m q) (part_count hm h)
  rw [sumN_congr (g := fun j => pairS (costPair m q) (itemsOf (searchP m l) m.length j)) (blocksP (searchP m l)).length fun j hj => ?_, h2]
  · unfold costP costN
    rw [hq]
    refine sumN_mono _ fun i hi => sumN_mono _ fun k hk => ?_
    have := costPair_nn m q i k
    split
    · exact Int.le_refl _
    · exact this
  · have pj := part_is hm h hj
    rw [← pj.items, ← cost_restr]
theorem exactN_yes {bs : List (List Int)} : ∀ {K : Nat}, exactN bs K = true → ∀ j, j < K → (bs.getD j []).length ≤ 6
  | 0, _, j, hj => absurd hj (Nat.not_lt_zero j)
  | K + 1, h, j, hj => by
    rw [exactN, Bool.and_eq_true, decide_eq_true_eq] at h
    by_cases e : j = K
    · subst e; exact h.2
    · exact exactN_yes h.1 j (by omega)
/-- a clustering that says that it is exact is of least cost -/
theorem clus_best {m : List (List Int)} {l : List Constraint} (hm : WM m) (h : consistB m.length l = true) (he : clExact m l = true) : costP m (clLab m l) = (bestF m l).2.1 := by
  have hs := canonL_same (labP m l)
  have hk := labP_keeps hm h
  have hle := bestF_le (m := m) (labP_len m l) hk
  obtain ⟨b1, b2, b3, b4⟩ := bestF_is hle.1
  have e0 : costP m (clLab m l) = costP m (labP m l) := cost_same m hs
  have h1 := cost_parts hm h b4
  rw [← b2] at h1
  have h2 := sumN_mono (f := fun j => costP (subM m ((blocksP (searchP m l)).getD j [])) (pAt m l j)) (g := fun j => costP (subM m ((blocksP (searchP m l)).getD j [])) (restrL (bestF m l).1 ((blocksP (searchP m l)).getD j []))) (blocksP (searchP m l)).length fun j hj => by
    have pj := part_is hm h hj
    obtain ⟨_, g2, _, g4⟩ := partP_facts pj.wm pj.con
    have h6 := exactN_yes he j hj
    have h7 := (g4 (by rw [subM_len]; exact h6)).1
    show costP _ (partP _ _) ≤ _
    rw [h7]
    exact (bestF_le (m := subM m ((blocksP (searchP m l)).getD j [])) (by rw [restrL_len, subM_len]) (keeps_restr b1)).2
  rw [← labP_cost hm h] at h2
  omega
theorem clLab_keeps {m : List (List Int)} {l : List Constraint} (hm : WM m) (h : consistB m.length l = true) : keepsB (clLab m l) l = true := by
  show keepsB (canonL (labP m l)) l = true
  rw [keeps_same l (canonL_same (labP m l))]
  exact labP_keeps hm h
theorem clLab_part2 {m : List (List Int)} {l : List Constraint} (hm : WM m) (h : consistB m.length l = true) {x y : Nat} (hx : x < m.length) (hy : y < m.length) (e : (clLab m l).getD x 0 = (clLab m l).getD y 0) : (searchP m l).getD x 0 = (searchP m l).getD y 0 := by
  have hs := canonL_same (labP m l)
  have hl : (canonL (labP m l)).length = m.length := by rw [canonL_len, labP_len]
  exact labP_part hm h hx hy ((hs.2 x y (by rw [hl]; exact hx) (by rw [hl]; exact hy)).1 e)
end Go.Proofs.YtidchfncfcckiaaGreat

namespace Go.Proofs.YtidchfncfcckiaaGreat
open Go.RowKit

noncomputable def bcostP (m : List (List Int)) (l : List Constraint) : Int := if wmB m && consistB m.length l then (bestF m l).2.1 else -1
theorem bcost_no {m : List (List Int)} {l : List Constraint} (h : (wmB m && consistB m.length l) = false) : bcostP m l = -1 := by unfold bcostP; rw [h]; rfl
theorem bcost_yes {m : List (List Int)} {l : List Constraint} (h : (wmB m && consistB m.length l) = true) : bcostP m l = (bestF m l).2.1 := by unfold bcostP; rw [h]; rfl
set_option maxHeartbeats 400000 in
theorem impl_BestCost (v u : Value) (m : List (List Int)) (l : List Constraint) (w : World) (h : Sl (slR intR) w v m) (k : Sl constraintR w u l) :
    Calls Tryz.prog 17 #[v, u] w fun e w2 => e = .returned (.int .i64 (bcostP m l)) ∧ Ext w w2 := by
  have HC := hid (impl_canCluster v u m l w h k)
  have HB := hid (fun (hm : WM m) (W : World) (y : Ext w W) => impl_best v u m l W (h.mono y) (k.mono y) hm)
  obtain ⟨A, cap, rfl, hm1⟩ := h.form
  obtain ⟨B, cap2, rfl, hm2⟩ := k.form
  cases hok : wmB m && consistB m.length l with
  | false =>
    rw [hok] at HC
    have HR := hid (bcost_no hok)
    clear hok h k HB
    go_enter Tryz.func17, Tryz.ntmps17
    go_wp2_with fail
    refine (HC.out).mono ?_
    rintro e w2 ⟨rfl, x2⟩
    go_wp2
    go_ret
    exact ⟨ret_int HR.out.symm, x2⟩
  | true =>
    rw [hok] at HC
    have HR := hid (bcost_yes hok)
    rw [Bool.and_eq_true] at hok
    have HB := hid (HB.out (wmB_iff.1 hok.1))
    clear hok h k
    go_enter Tryz.func17, Tryz.ntmps17
    go_wp2_with fail
    refine (HC.out).mono ?_
    rintro e w2 ⟨rfl, x2⟩
    go_wp2_with fail
    refine (HB.out _ x2).mono ?_
    rintro e w3 ⟨v3, F3, rfl, o3, n3, x3⟩
    clear o3 n3
    go_wp2
    go_ret
    exact ⟨ret_int HR.out.symm, x2.trans x3⟩

/-- what l20Run hands back where nothing can be clustered -/
theorem Blk.at5 {w : World} {g : Nat} {e : TypeId} {a b c d f : Value} (h : Blk w g e [a, b, c, d, f]) (x y z u : Value) :
    (w.setCell ⟨g, 0, none⟩ x).cell? ⟨g, 1, none⟩ = some b ∧ (w.setCell ⟨g, 0, none⟩ x).frozen? ⟨g, 1, none⟩ = false ∧
    ((w.setCell ⟨g, 0, none⟩ x).setCell ⟨g, 1, none⟩ y).cell? ⟨g, 2, none⟩ = some c ∧ ((w.setCell ⟨g, 0, none⟩ x).setCell ⟨g, 1, none⟩ y).frozen? ⟨g, 2, none⟩ = false ∧
    (((w.setCell ⟨g, 0, none⟩ x).setCell ⟨g, 1, none⟩ y).setCell ⟨g, 2, none⟩ z).cell? ⟨g, 3, none⟩ = some d ∧ (((w.setCell ⟨g, 0, none⟩ x).setCell ⟨g, 1, none⟩ y).setCell ⟨g, 2, none⟩ z).frozen? ⟨g, 3, none⟩ = false ∧
    ((((w.setCell ⟨g, 0, none⟩ x).setCell ⟨g, 1, none⟩ y).setCell ⟨g, 2, none⟩ z).setCell ⟨g, 3, none⟩ u).cell? ⟨g, 4, none⟩ = some f ∧ ((((w.setCell ⟨g, 0, none⟩ x).setCell ⟨g, 1, none⟩ y).setCell ⟨g, 2, none⟩ z).setCell ⟨g, 3, none⟩ u).frozen? ⟨g, 4, none⟩ = false := by
  have b1 := Blk.store (done := []) h rfl x
  have b2 := Blk.store (done := [x]) b1 rfl y
  have b3 := Blk.store (done := [x, y]) b2 rfl z
  have b4 := Blk.store (done := [x, y, z]) b3 rfl u
  exact ⟨(Blk.at_ (done := [x]) b1 rfl).1, (Blk.at_ (done := [x]) b1 rfl).2, (Blk.at_ (done := [x, y]) b2 rfl).1, (Blk.at_ (done := [x, y]) b2 rfl).2, (Blk.at_ (done := [x, y, z]) b3 rfl).1, (Blk.at_ (done := [x, y, z]) b3 rfl).2, (Blk.at_ (done := [x, y, z, u]) b4 rfl).1, (Blk.at_ (done := [x, y, z, u]) b4 rfl).2⟩
set_option maxHeartbeats 1000000 in
set_option maxRecDepth 20000 in
theorem spec_l20Run_no (v u : Value) (m : List (List Int)) (l : List Constraint) (w : World) (h : Sl (slR intR) w v m) (k : Sl constraintR w u l) (hn : (wmB m && consistB m.length l) = false) :
    Calls Tryz.prog 96 #[v, u] w fun e w2 => e = .returned (.tuple #[.agg #[.slice none 0 0, .slice none 0 0, .slice none 0 0, .int .i64 0, .int .i64 0], .bool false]) ∧ Ext w w2 := by
  have HA := hid (fun (W : World) (y : Ext w W) => spec_IsWeightMatrix v m W (h.mono y))
  have HB := hid (fun (q : 1 ≤ m.length ∧ m.length ≤ 8) (W : World) (y : Ext w W) => spec_IsConsistent m.length u l W (k.mono y) q)
  obtain ⟨A, cap, rfl, hm1⟩ := h.form
  obtain ⟨B, cap2, rfl, hm2⟩ := k.form
  have HX1 := hid (show Ext w (w.alloc (.cells #[.slice none 0 0, .slice none 0 0, .slice none 0 0, .int .i64 0, .int .i64 0] 100)) from (Ext.refl _).alloc _)
  have HB4 := hid (Blk.new w 100 #[.slice none 0 0, .slice none 0 0, .slice none 0 0, .int .i64 0, .int .i64 0])
  cases hw : wmB m with
  | false =>
    rw [hw] at HA
    clear hn hw h k HB
    go_enter Tryz.func96, Tryz.ntmps96
    go_wp2_with fail
    refine (HA.out _ HX1.out).mono ?_
    rintro e w2 ⟨rfl, x2⟩
    have b := HB4.out.ext x2
    have x2 := HX1.out.trans x2
    obtain ⟨⟨r0, r1, r2, r3, r4⟩, rf⟩ := b.c5
    have rf0 := rf 0
    obtain ⟨a1, f1, a2, f2, a3, f3, a4, f4⟩ := b.at5 (.slice none 0 0) (.slice none 0 0) (.slice none 0 0) (.int .i64 0)
    have b49 := hid (b.store5 (.slice none 0 0) (.slice none 0 0) (.slice none 0 0) (.int .i64 0) (.int .i64 0))
    have HX2 := hid x2
    clear b rf r1 r2 r3 r4 x2
    go_wp2
    obtain ⟨⟨t0, t1, t2, t3, t4⟩, _⟩ := b49.out.c5
    refine bodyPost_ret (v := .tuple #[.agg #[.slice none 0 0, .slice none 0 0, .slice none 0 0, .int .i64 0, .int .i64 0], .bool false]) (by simp [results, Tryz.results96, go_sem, t0, t1, t2, t3, t4]) rfl ?_
    exact ⟨rfl, ((((HX2.out.setCell (Nat.le_refl _) _).setCell (Nat.le_refl _) _).setCell (Nat.le_refl _) _).setCell (Nat.le_refl _) _).setCell (Nat.le_refl _) _⟩
  | true =>
    rw [hw, Bool.true_and] at hn
    rw [hw] at HA
    have hm := wmB_iff.1 hw
    have HB := hid (HB.out ⟨hm.n1, hm.n8⟩)
    rw [hn] at HB
    clear hn hw h k hm
    go_enter Tryz.func96, Tryz.ntmps96
    go_wp2_with fail
    refine (HA.out _ HX1.out).mono ?_
    rintro e w1 ⟨rfl, x1⟩
    go_wp2_with fail
    refine (HB.out _ (HX1.out.trans x1)).mono ?_
    rintro e w2 ⟨rfl, x2⟩
    have b := (HB4.out.ext x1).ext x2
    have x2 := (HX1.out.trans x1).trans x2
    obtain ⟨⟨r0, r1, r2, r3, r4⟩, rf⟩ := b.c5
    have rf0 := rf 0
    obtain ⟨a1, f1, a2, f2, a3, f3, a4, f4⟩ := b.at5 (.slice none 0 0) (.slice none 0 0) (.slice none 0 0) (.int .i64 0)
    have b49 := hid (b.store5 (.slice none 0 0) (.slice none 0 0) (.slice none 0 0) (.int .i64 0) (.int .i64 0))
    have HX2 := hid x2
    clear b rf r1 r2 r3 r4 x2
    go_wp2
    obtain ⟨⟨t0, t1, t2, t3, t4⟩, _⟩ := b49.out.c5
    refine bodyPost_ret (v := .tuple #[.agg #[.slice none 0 0, .slice none 0 0, .slice none 0 0, .int .i64 0, .int .i64 0], .bool false]) (by simp [results, Tryz.results96, go_sem, t0, t1, t2, t3, t4]) rfl ?_
    exact ⟨rfl, ((((HX2.out.setCell (Nat.le_refl _) _).setCell (Nat.le_refl _) _).setCell (Nat.le_refl _) _).setCell (Nat.le_refl _) _).setCell (Nat.le_refl _) _⟩
set_option maxHeartbeats 400000 in
set_option maxRecDepth 20000 in
theorem spec_BestCost (v u : Value) (m : List (List Int)) (l : List Constraint) (w : World) (h : Sl (slR intR) w v m) (k : Sl constraintR w u l) :
    Calls Tryz.prog 67 #[v, u] w fun e w2 => e = .returned (.int .i64 (bcostP m l)) ∧ Ext w w2 := by
  cases hok : wmB m && consistB m.length l with
  | false =>
    have HC := hid (spec_l20Run_no v u m l w h k hok)
    have HR := hid (bcost_no hok)
    obtain ⟨A, cap, rfl, hm1⟩ := h.form
    obtain ⟨B, cap2, rfl, hm2⟩ := k.form
    clear hok h k
    go_enter Tryz.func67, Tryz.ntmps67
    go_wp2_with fail
    refine (HC.out).mono ?_
    rintro e w2 ⟨rfl, x2⟩
    go_wp2
    go_ret
    exact ⟨ret_int HR.out.symm, x2.alloc _⟩
  | true =>
    have HR := hid (bcost_yes hok)
    rw [Bool.and_eq_true] at hok
    have HC := hid (spec_l20Run v u m l w h k (wmB_iff.1 hok.1) hok.2)
    obtain ⟨A, cap, rfl, hm1⟩ := h.form
    obtain ⟨B, cap2, rfl, hm2⟩ := k.form
    clear hok h k
    go_enter Tryz.func67, Tryz.ntmps67
    go_wp2_with fail
    refine (HC.out).mono ?_
    rintro e w2 ⟨v2, F, rfl, o2, n2, x2⟩
    obtain ⟨A2, c2, e2, _⟩ := o2.form
    subst e2
    clear o2 n2
    go_wp2
    go_ret
    exact ⟨ret_int HR.out.symm, x2.alloc _⟩
set_option maxHeartbeats 400000 in
theorem spec_PartitionCost_any (v u : Value) (m : List (List Int)) (l : List Int) (w : World) (h : Sl (slR intR) w v m) (k : Sl intR w u l) :
    Calls Tryz.prog 51 #[v, u] w fun e w2 => e = .returned (.int .i64 (pcostP m l)) ∧ Ext w w2 := by
  by_cases hy : wmB m = true ∧ partB l = true ∧ l.length = m.length
  · rw [pcost_yes hy]
    exact spec_PartitionCost v u m l w h k (wmB_iff.1 hy.1) hy.2.1 hy.2.2
  · have HR := hid (pcost_no hy)
    have HA := hid (spec_IsWeightMatrix v m w h)
    have HB := hid (fun (W : World) (y : Ext w W) => spec_IsPartition u l W (k.mono y))
    obtain ⟨A, cap, rfl, hm1⟩ := h.form
    obtain ⟨B, cap2, rfl, hm2⟩ := k.form
    have hne : wmB m = true → partB l = true → ((l.length : Int) != (m.length : Int)) = true := fun h1 h2 => by
      rw [bne_iff_ne]; exact fun e => hy ⟨h1, h2, by omega⟩
    rw [HR.out]
    obtain ⟨p, hp⟩ : ∃ p, p = wmB m := ⟨_, rfl⟩
    obtain ⟨q, hq⟩ : ∃ q, q = partB l := ⟨_, rfl⟩
    rw [← hp] at HA hne
    rw [← hq] at HB hne
    clear h k hy hp hq HR
    cases p with
    | false =>
      clear hne
      go_enter Tryz.func51, Tryz.ntmps51
      go_wp2_with fail
      refine (HA.out).mono ?_
      rintro e w2 ⟨rfl, x2⟩
      go_wp2
      go_ret
      exact ⟨rfl, x2⟩
    | true =>
      cases q with
      | false =>
        clear hne
        go_enter Tryz.func51, Tryz.ntmps51
        go_wp2_with fail
        refine (HA.out).mono ?_
        rintro e w2 ⟨rfl, x2⟩
        go_wp2_with fail
        refine (HB.out _ x2).mono ?_
        rintro e w3 ⟨rfl, rfl⟩
        go_wp2
        go_ret
        exact ⟨rfl, x2⟩
      | true =>
        have hn := hne rfl rfl
        clear hne
        go_enter Tryz.func51, Tryz.ntmps51
        go_wp2_with fail
        refine (HA.out).mono ?_
        rintro e w2 ⟨rfl, x2⟩
        go_wp2_with fail
        refine (HB.out _ x2).mono ?_
        rintro e w3 ⟨rfl, rfl⟩
        go_wp2
        go_ret
        exact ⟨rfl, x2⟩
end Go.Proofs.YtidchfncfcckiaaGreat

namespace Go.Proofs.YtidchfncfcckiaaGreat
open Go.RowKit

set_option maxHeartbeats 400000 in
theorem slices_Equal (v u : Value) (xs ys : List Int) (w : World) (h : Sl intR w v xs) (k : Sl intR w u ys) :
    Calls Tryz.prog 59 #[v, u] w fun e w2 => e = .returned (.bool (eqB xs ys)) ∧ Ext w w2 := by
  obtain ⟨A, cap, rfl, hm⟩ := h.form
  obtain ⟨B, cap2, rfl, hm2⟩ := k.form
  by_cases hl : xs.length = ys.length
  · have hl' : ((xs.length : Int) != (ys.length : Int)) = false := by simp [hl]
    have HL := hid hl
    clear hl
    go_enter Tryz.func59, Tryz.ntmps59
    go_wp2
    go_loopw [13] (fun i wr => ∃ k2 : Nat, k2 ≤ xs.length ∧ i = .int .i64 k2 ∧ xs.take k2 = ys.take k2 ∧ Ext w wr) (fun i _ => xs.length - (intOf i).toNat)
    case atStart => exact ⟨0, Nat.zero_le _, rfl, by simp, Ext.refl _⟩
    case round =>
      obtain ⟨k2, hk, rfl, he, hx⟩ := hrel
      have HE := hid he
      clear he
      by_cases hlt : k2 < xs.length
      · have hlt2 : k2 < ys.length := by have := HL.out; omega
        obtain ⟨b, off, rfl, hi, hc⟩ := (h.mono hx).int hlt
        obtain ⟨b2, off2, rfl, hi2, hc2⟩ := (k.mono hx).int hlt2
        have hcz : ∀ z : ExtOf wr, z.1.cell? ⟨b, off + k2, none⟩ = _ := fun z => z.2.cell hc
        have hcz2 : ∀ z : ExtOf wr, z.1.cell? ⟨b2, off2 + k2, none⟩ = _ := fun z => z.2.cell hc2
        by_cases h0 : xs[k2] = ys[k2]
        · have h0' : (xs[k2] != ys[k2]) = false := by simp [h0]
          have H0 := hid h0
          clear h0
          go_wp2_with fail
          refine wp_region_ext (by kernel_rfl) (by kernel_rfl) ?_
          repeat (go_big_quiet_step ((fail)))
          refine wpQuiet_nil ?_
          rintro w1 ⟨⟨_, x1⟩, rfl⟩
          go_wp2
          go_roundw
          case rel => exact ⟨k2 + 1, by omega, by go_num, take_snoc_eq hlt hlt2 H0.out HE.out, hx.trans x1⟩
          case measure => simp [intOf]; omega
        · have h0' : (xs[k2] != ys[k2]) = true := by simp [h0]
          go_wp2_with fail
          refine wp_region_ext (by kernel_rfl) (by kernel_rfl) ?_
          repeat (go_big_quiet_step ((fail)))
          refine wpQuiet_nil ?_
          rintro w1 ⟨⟨_, x1⟩, rfl⟩
          go_wp2
          go_ret
          exact ⟨ret_bool (eqB_false (ne_of_at hlt hlt2 h0)).symm, hx.trans x1⟩
      · go_wp2
        go_ret
        exact ⟨ret_bool (eqB_true (eq_of_take hlt HL.out HE.out)).symm, hx⟩
  · have hl' : ((xs.length : Int) != (ys.length : Int)) = true := by simp; omega
    go_enter Tryz.func59, Tryz.ntmps59
    go_wp2
    go_ret
    exact ⟨ret_bool (eqB_false fun e => hl (by rw [e])).symm, Ext.refl _⟩
end Go.Proofs.YtidchfncfcckiaaGreat

namespace Go.Proofs.YtidchfncfcckiaaGreat
open Go.RowKit

section
variable {P : Program} {ops : Array Oper} {md : Region.Mode} {C : World → Prop}

/-- each of the operations from m to n - 1 is waited for by a later one, up to n -/
def sinkM (md : Region.Mode) (ops : Array Oper) (m n : Nat) : Bool :=
  (List.range n).all fun i => decide (i < m) || (List.range (n + 1)).any fun j => decide (i < j) && Region.waitsFor md ops j i

theorem tail_waitsM {m n : Nat} {listed : Array Bool} (hs : sinkM md ops m n = true) (hc : Region.chainB md ops n = true) (hn : n < ops.size) (inv : HeadInv md ops n listed) :
    ∀ (d i : Nat), n - i = d → m ≤ i → i < n → listed.getD i true = false → ∀ t, n ≤ t → t ∉ Region.ready md ops listed := by
  intro d
  induction d using Nat.strongRecOn with
  | _ d ih =>
    intro i hd hmi hi hun t ht hr
    obtain ⟨_, ot, hot, hall⟩ := mem_ready.1 hr
    have htlt : t < ops.size := (Array.getElem?_eq_some_iff.1 hot).1
    by_cases htn : t = n
    · subst htn
      have h1 := List.all_eq_true.1 hs i (List.mem_range.2 hi)
      rw [Bool.or_eq_true, decide_eq_true_eq] at h1
      rcases h1 with h1 | h1
      · omega
      · obtain ⟨j, hj, hj2⟩ := List.any_eq_true.1 h1
        simp only [Bool.and_eq_true, decide_eq_true_eq] at hj2
        obtain ⟨oj, hoj, e, he, hb, hon⟩ := Region.waitsFor_spec hj2.2
        have hjle : j ≤ t := by have := List.mem_range.1 hj; omega
        by_cases hjt : j = t
        · subst hjt
          have : oj = ot := Option.some.inj (hoj.symm.trans hot)
          subst this
          have h2 := hall e he hb
          rw [hon, getD_both hun] at h2
          cases h2
        · cases hl : listed.getD j false with
          | true =>
            have h2 := inv.closed j oj hoj hl e he hb
            rw [hon, getD_both hun] at h2
            cases h2
          | false =>
            have hjs : j < listed.size := by rw [inv.size]; omega
            exact ih (t - j) (by omega) j rfl (by omega) (by omega) (getD_in hjs hl) t (Nat.le_refl _) hr
    · have h1 := List.all_eq_true.1 hc t (List.mem_range.2 htlt)
      simp only [Bool.or_eq_true, decide_eq_true_eq] at h1
      rcases h1 with h1 | h1
      · omega
      · obtain ⟨o', ho', e, he, hb, hon⟩ := Region.waitsFor_spec h1
        have : o' = ot := Option.some.inj (ho'.symm.trans hot)
        subst this
        have h2 := hall e he hb
        rw [hon, getD_both (inv.tail (t - 1) (by omega) (by omega))] at h2
        cases h2

def wpAnyLQ (P : Program) (md : Region.Mode) (ops : Array Oper) (C : World → Prop) (n : Nat) (L : Array Bool → Act → Prop) : Nat → Array Bool → Act → Prop
  | 0, listed, a => L listed a
  | f + 1, listed, a =>
    Region.ready md ops listed ≠ [] ∧ ∀ i ∈ Region.ready md ops listed, i < n ∧ qOp P ops C i (wpAnyLQ P md ops C n L f (listed.setIfInBounds i true)) a

theorem wpAny_of_headQ {n g : Nat} {L : Array Bool → Act → Prop} {Q' : Exit → Act → World → Prop} (hL : ∀ listed a w, C w → L listed a → wpAny P md ops Q' g listed a w) :
    ∀ (f : Nat) (listed : Array Bool) (a : Act) (w : World), C w → wpAnyLQ P md ops C n L f listed a → wpAny P md ops Q' (f + g) listed a w
  | 0, listed, a, w, hw, h => by rw [Nat.zero_add]; exact hL _ _ _ hw h
  | f + 1, listed, a, w, hw, h => by
    rw [show f + 1 + g = (f + g) + 1 by omega]
    exact ⟨fun h0 => absurd h0 h.1, fun i hi => wpOp_of_qOp hw (fun a' w' hw' h' => wpAny_of_headQ hL f _ a' w' hw' h') (h.2 i hi).2⟩

theorem wpAnyLQ_first {m n i : Nat} {oi : Oper} {v : Value} {L : Array Bool → Act → Prop} (hi : ops[i]? = some oi) (hsel : ∀ (j : Nat) (o : Oper) cs b, ops[j]? = some o → o.op ≠ .select cs b)
    (hs : sinkM md ops m n = true) (hc : Region.chainB md ops n = true) (hn : n < ops.size) (hmi : m ≤ i) (hin : i < n)
    (hdone : ∀ listed a, L listed a → ∀ j ∈ Region.ready md ops listed, n ≤ j) :
    ∀ (f : Nat) (listed : Array Bool) (a : Act), HeadInv md ops n listed →
      (∀ j oj, ops[j]? = some oj → j ≠ i → listed.getD j true = false → (∀ e ∈ oj.after, Region.binds md e = true → e.on ≠ i) → oi.apart ops oj = true) →
      i ∈ Region.ready md ops listed → YieldsIn P ops C oi v a →
      wpAnyLQ P md ops C n L f (listed.setIfInBounds i true) (a.put oi.dst v) → wpAnyLQ P md ops C n L (f + 1) listed a := by
  intro f
  induction f with
  | zero =>
    intro listed a inv _ hr hy H
    have hun := (mem_ready.1 hr).1
    refine ⟨fun h => (by rw [h] at hr; cases hr), fun j hj => ?_⟩
    have hjn : j < n := by
      rcases Nat.lt_or_ge j n with h | h
      · exact h
      · exact absurd hj (tail_waitsM hs hc hn inv _ i rfl hmi hin hun j h)
    refine ⟨hjn, ?_⟩
    by_cases hji : j = i
    · subst hji; exact hy.qOp hi H
    · have := hdone _ _ H j (ready_mono hj hji)
      omega
  | succ f ih =>
    intro listed a inv hfree hr hy H
    have hun := (mem_ready.1 hr).1
    refine ⟨fun h => (by rw [h] at hr; cases hr), fun j hj => ?_⟩
    have hjn : j < n := by
      rcases Nat.lt_or_ge j n with h | h
      · exact h
      · exact absurd hj (tail_waitsM hs hc hn inv _ i rfl hmi hin hun j h)
    refine ⟨hjn, ?_⟩
    by_cases hji : j = i
    · subst hji; exact hy.qOp hi H
    · have h1 := (H.2 j (ready_mono hj hji)).2
      obtain ⟨hjun, oj, hoj, hall⟩ := mem_ready.1 hj
      have hnot : ∀ e ∈ oj.after, Region.binds md e = true → e.on ≠ i := fun e he hb heq => by
        have h1 := hall e he hb
        rw [heq, getD_both hun] at h1
        cases h1
      have h2 := qOp_put hoj (hfree j oj hoj hji hjun hnot) (fun cs b => hsel i oi cs b hi) (fun cs b => hsel j oj cs b hoj) hy h1
      have hfree' : ∀ k ok, ops[k]? = some ok → k ≠ i → (listed.setIfInBounds j true).getD k true = false →
          (∀ e ∈ ok.after, Region.binds md e = true → e.on ≠ i) → oi.apart ops ok = true := fun k ok hk hki hun hno => by
        refine hfree k ok hk hki ?_ hno
        by_cases hjk : j = k
        · subst hjk; exact hjun
        · rw [getD_set_ne true hjk] at hun; exact hun
      refine qOp_mono (fun a' h3 => ih (listed.setIfInBounds j true) a' (inv.set hj hjn) hfree' (ready_mono hr (Ne.symm hji)) h3.1 ?_) h2
      rw [Array.setIfInBounds_comm _ _ hji]
      exact h3.2

theorem wpAnyLQ_lex {m n g : Nat} {Lq : Act → Prop} (hsel : Region.noSelect ops = true) (hs : sinkM md ops m n = true) (hc : Region.chainB md ops n = true) (hn : n < ops.size) :
    ∀ (l : List Oper) (k : Nat) (listed : Array Bool) (a : Act), m ≤ k → (∀ j, j < l.length → l[j]? = ops[k + j]?) → k + l.length = n → HeadInv md ops n listed →
    Region.lexHead md ops g l.length k listed = true → wpQuiet P ops C Lq l a →
    wpAnyLQ P md ops C n (fun listed' a' => Region.seqB md ops g n listed' = true ∧ Lq a') l.length listed a
  | [], k, listed, a, _, hl, hk, _, hB, h => by
    have : k = n := by simpa using hk
    subst this
    exact ⟨by simpa [Region.lexHead] using hB, h⟩
  | o :: l, k, listed, a, hmk, hl, hk, inv, hB, h => by
    have h0 : ops[k]? = some o := by simpa using (hl 0 (by simp)).symm
    simp only [List.length_cons, Region.lexHead, Bool.and_eq_true] at hB
    obtain ⟨⟨hr, hf⟩, hB'⟩ := hB
    have hkn : k < n := by simp only [List.length_cons] at hk; omega
    have hr' : k ∈ Region.ready md ops listed := by simpa using hr
    have hst : qOp P ops C k (wpQuiet P ops C Lq l) a := by unfold qOp; simp only [h0]; exact h
    obtain ⟨v, hy, hK⟩ := yieldsIn_of_qOp h0 hst
    exact wpAnyLQ_first h0 (Region.noSelect_spec hsel) hs hc hn hmk hkn (fun listed' a' hL => seqB_ready hL.1) l.length listed a inv (Region.free_spec h0 hf) hr' hy
      (wpAnyLQ_lex hsel hs hc hn l (k + 1) _ _ (by omega) (fun j hj => by have := hl (j + 1) (by simp; omega); simpa [Nat.add_assoc, Nat.add_comm 1 j] using this) (by simp only [List.length_cons] at hk; omega) (inv.set hr' hkn) hB' hK)

/-- what is asked of the region: its operations from m on, n the first that writes; the first m (none or one) are moves -/
def tailM (md : Region.Mode) (ops : Array Oper) (m n : Nat) : Bool :=
  Region.noSelect ops && decide (n < ops.size) && decide (m ≤ n) && sinkM md ops m n && Region.chainB md ops n &&
  (match m with
   | 0 => Region.lexHead md ops (ops.size - n) n 0 (Array.replicate ops.size false)
   | _ => (Region.ready md ops (Array.replicate ops.size false)).contains 0 && Region.free md ops (Array.replicate ops.size false) 0 && Region.lexHead md ops (ops.size - n) (n - 1) 1 ((Array.replicate ops.size false).setIfInBounds 0 true))

theorem inv_none (n : Nat) : HeadInv md ops n (Array.replicate ops.size false) :=
  ⟨by simp, fun j oj _ hl => (by rw [getD_replicate_false] at hl; cases hl), fun t _ ht => getD_in (by simpa using ht) (getD_replicate_false _ _)⟩

theorem wp_region_tail0 {id : Nat} {Q : Exit → Act → World → Prop} {a : Act} {w : World} {l : List Oper} (n : Nat) (hm : P.follows .mixedOrders = true) (hB : tailM .any l.toArray 0 n = true) (hC : C w.drew)
    (h : wpQuiet P l.toArray C (fun a' => ∀ w1, C w1 → wpList P l.toArray Q (l.drop n) a' w1) (l.take n) a) : (Code.region id l.toArray true).wp P Q a w := by
  simp only [tailM, Bool.and_eq_true, decide_eq_true_eq] at hB
  obtain ⟨⟨⟨⟨⟨hsel, hn⟩, _⟩, hs⟩, hc⟩, hlex⟩ := hB
  have hn' : n < l.length := by simpa using hn
  have htl : (l.take n).length = n := by simp; omega
  have hdl : (l.drop n).length = l.toArray.size - n := by simp
  have H := wpAnyLQ_lex (md := .any) (g := l.toArray.size - n) (C := C) hsel hs hc hn (l.take n) 0 _ a (Nat.le_refl _) (fun j hj => by
    have hj' : j < n := by rw [htl] at hj; exact hj
    simp [hj']) (by simpa using htl) (inv_none n) (by rw [htl]; exact hlex) h
  refine wp_region_any hm ?_
  have := wpAny_of_headQ (Q' := Q) (g := l.toArray.size - n) (fun listed a' w1 hw hL => by
    have := wpAny_of_seq (md := .any) (Q' := Q) (l.drop n) n listed a' w1 (fun j => by simp [List.getElem?_drop]) (by rw [hdl]; exact hL.1) (hL.2 w1 hw)
    rwa [hdl] at this) _ _ _ _ hC H
  rw [htl, show n + (l.toArray.size - n) = l.toArray.size by omega] at this
  exact this

theorem wp_region_tail1 {id : Nat} {Q : Exit → Act → World → Prop} {a : Act} {w : World} {o : Oper} {l : List Oper} (n : Nat) (hm : P.follows .mixedOrders = true) (hB : tailM .any (o :: l).toArray 1 (n + 1) = true)
    (hgd : o.guard = none) {x : Operand} (ho : o.op = .move x) (hQ2 : ∀ c a v w, Q (.panic c) (a.put o.dst v) w → Q (.panic c) a w) (hC : C w.drew)
    (h : wpQuiet P (o :: l).toArray C (fun a' => ∀ w1, C w1 → wpList P (o :: l).toArray Q (l.drop n) a' w1) (l.take n) (a.put o.dst (a.eval x))) : (Code.region id (o :: l).toArray true).wp P Q a w := by
  simp only [tailM, Bool.and_eq_true, decide_eq_true_eq] at hB
  obtain ⟨⟨⟨⟨⟨hsel, hn⟩, _⟩, hs⟩, hc⟩, ⟨hr, hf⟩, hlex⟩ := hB
  have hn' : n < l.length := by simpa using hn
  have htl : (l.take n).length = n := by simp; omega
  have hdl : (l.drop n).length = (o :: l).toArray.size - (n + 1) := by simp
  have h0 : (o :: l).toArray[0]? = some o := by simp
  have hr' : 0 ∈ Region.ready .any (o :: l).toArray (Array.replicate (o :: l).toArray.size false) := by simpa using hr
  have inv := (inv_none (md := .any) (ops := (o :: l).toArray) (n + 1)).set hr' (Nat.succ_pos n)
  have H := wpAnyLQ_lex (md := .any) (g := (o :: l).toArray.size - (n + 1)) (C := C) hsel hs hc hn (l.take n) 1 _ _ (Nat.le_refl _) (fun j hj => by
    have hj' : j < n := by rw [htl] at hj; exact hj
    simp [hj', Nat.add_comm 1 j]) (by rw [htl]; omega) inv (by rw [htl]; exact hlex) h
  refine wp_region_any hm ?_
  have H2 := wpAny_of_headQ (Q' := Q) (g := (o :: l).toArray.size - (n + 1)) (fun listed a' w1 hw hL => by
    have := wpAny_of_seq (md := .any) (Q' := Q) (l.drop n) (n + 1) listed a' w1 (fun j => by simp [List.getElem?_drop, Nat.add_right_comm n 1 j]) (by rw [hdl]; exact hL.1) (hL.2 w1 hw)
    rwa [hdl] at this) _ _ _ _ hC H
  rw [htl] at H2
  have hsz : (o :: l).toArray.size = (n + ((o :: l).toArray.size - (n + 1))) + 1 := by simp; omega
  have hy : Yields P (o :: l).toArray o (a.eval x) a := by
    left
    refine ⟨by simp [Region.wanted, hgd], fun w => ?_⟩
    simp [execOp, ho]
  have := wpAny_first h0 (Region.noSelect_spec hsel) (fun c a2 w2 h2 => hQ2 c a2 _ w2 h2) _ _ a w.drew (Region.free_spec h0 hf) hr' hy H2
  rw [← hsz] at this
  exact this
theorem wp_region_ext0 {id : Nat} {Q : Exit → Act → World → Prop} {a : Act} {w : World} {l : List Oper} (n : Nat) (hm : P.follows .mixedOrders = true) (hB : tailM .any l.toArray 0 n = true)
    (h : wpQuiet P l.toArray (fun w1 => ∃ z : ExtOf w, w1 = z.1) (fun a' => ∀ w1, (∃ z : ExtOf w, w1 = z.1) → wpList P l.toArray Q (l.drop n) a' w1) (l.take n) a) : (Code.region id l.toArray true).wp P Q a w :=
  wp_region_tail0 (C := fun w1 => ∃ z : ExtOf w, w1 = z.1) n hm hB ⟨⟨_, (Ext.refl w).drew⟩, rfl⟩ h
theorem wpQuiet_move {C : World → Prop} {Q : Act → Prop} {ops : Array Oper} {o : Oper} {l : List Oper} {a : Act} {w : World} (hw : C w) (hgd : o.guard = none) {x : Operand} (ho : o.op = .move x) (h : wpQuiet P ops C Q (o :: l) a) : wpQuiet P ops C Q l (a.put o.dst (a.eval x)) := by
  have hwt : Region.wanted o (yielded ops a.tmps) = true := by simp [Region.wanted, hgd]
  unfold wpQuiet at h
  rw [if_pos hwt] at h
  obtain ⟨v, h1, h2⟩ := h
  have h3 := h1 w hw
  unfold Oper.quietAt at h3
  simp [execOp, ho, Oper.quietUpon] at h3
  subst h3
  exact h2
theorem wp_region_ext1 {id : Nat} {Q : Exit → Act → World → Prop} {a : Act} {w : World} {o : Oper} {l : List Oper} (n : Nat) (hm : P.follows .mixedOrders = true) (hB : tailM .any (o :: l).toArray 1 (n + 1) = true)
    (hgd : o.guard = none) {x : Operand} (ho : o.op = .move x) (hQ2 : ∀ c a v w, Q (.panic c) (a.put o.dst v) w → Q (.panic c) a w)
    (h : wpQuiet P (o :: l).toArray (fun w1 => ∃ z : ExtOf w, w1 = z.1) (fun a' => ∀ w1, (∃ z : ExtOf w, w1 = z.1) → wpList P (o :: l).toArray Q (l.drop n) a' w1) (o :: l.take n) a) : (Code.region id (o :: l).toArray true).wp P Q a w :=
  wp_region_tail1 (C := fun w1 => ∃ z : ExtOf w, w1 = z.1) n hm hB hgd ho hQ2 ⟨⟨_, (Ext.refl w).drew⟩, rfl⟩ (wpQuiet_move (w := w.drew) ⟨⟨_, (Ext.refl w).drew⟩, rfl⟩ hgd ho h)
end
end Go.Proofs.YtidchfncfcckiaaGreat

namespace Go.Proofs.YtidchfncfcckiaaGreat
open Go.RowKit

def u8R : Rep Int := ⟨1, fun _ cs x => cs = [.int .u8 x] ∧ 0 ≤ x ∧ x ≤ 255, fun h => by simp [h.1], fun _ h => h⟩
theorem reads_u8 {P : Program} {e : TypeId} (he : P.underlying e = some (.int .u8)) (hc : P.cellsOf e = 1) : Reads P e u8R :=
  ⟨hc, fun h => by
    obtain ⟨n, rfl, _, hw⟩ := DataW.trod_int he h
    exact ⟨n, rfl, by simpa [Lit.wf, IntKind.min, IntKind.max, IntKind.signed, IntKind.bits] using hw⟩⟩
theorem Sl.u8 {w : World} {A : Option Addr} {n cap : Nat} {xs : List Int} (h : Sl u8R w (.slice A n cap) xs) {i : Nat} (hi : i < xs.length) :
    ∃ b off, A = some ⟨b, off, none⟩ ∧ (0 ≤ xs[i] ∧ xs[i] ≤ 255) ∧ w.cell? ⟨b, off + i, none⟩ = some (.int .u8 xs[i]) := by
  obtain ⟨b, off, cs, rfl, ⟨rfl, hr⟩, hc⟩ := h.at_ hi
  exact ⟨b, off, rfl, hr, by simpa [u8R] using hc 0 (by simp [u8R])⟩
theorem rU8 : Reads Tryz.prog 5 u8R := reads_u8 Tryz.underlying5 (by kernel_rfl)
theorem rBytes : Reads Tryz.prog 22 (slR u8R) := reads_slice Tryz.underlying22 (by kernel_rfl) (by decide) rU8

theorem i64_and255 (n : Int) : bits .and .i64 n 255 = n % 256 := by
  have h255 : (BitVec.ofInt 64 255).toNat = 2 ^ 8 - 1 := by decide
  have key : (BitVec.ofInt 64 n &&& BitVec.ofInt 64 255).toNat = (n % ((2 ^ 64 : Nat) : Int)).toNat % 2 ^ 8 := by
    rw [BitVec.toNat_and, BitVec.toNat_ofInt, h255, Nat.and_two_pow_sub_one_eq_mod]
  show IntKind.i64.wrap ((BitVec.ofInt 64 n &&& BitVec.ofInt 64 255).toNat : Nat) = n % 256
  rw [key, IntKind.wrap_i64]
  omega
theorem i64_and30 (n : Int) : bits .and .i64 n 1073741823 = n % 1073741824 := by
  have h255 : (BitVec.ofInt 64 1073741823).toNat = 2 ^ 30 - 1 := by decide
  have key : (BitVec.ofInt 64 n &&& BitVec.ofInt 64 1073741823).toNat = (n % ((2 ^ 64 : Nat) : Int)).toNat % 2 ^ 30 := by
    rw [BitVec.toNat_and, BitVec.toNat_ofInt, h255, Nat.and_two_pow_sub_one_eq_mod]
  show IntKind.i64.wrap ((BitVec.ofInt 64 n &&& BitVec.ofInt 64 1073741823).toNat : Nat) = n % 1073741824
  rw [key, IntKind.wrap_i64]
  omega

/-- the cursor lies in block g; its bytes lie in w0 -/
def Cur (w0 w : World) (g : Nat) : Prop := ∃ (A : Option Addr) (cap : Nat) (bs : List Int) (p : Nat) (h : Int), Sl u8R w0 (.slice A bs.length cap) bs ∧ Ext w0 w ∧ w0.heap.size ≤ g ∧
  Blk w g 87 [.slice A bs.length cap, .int .i64 p, .int .i64 h] ∧ p ≤ bs.length ∧ I64 h
/-- all old blocks stand but g -/
def Kept (g : Nat) (w w2 : World) : Prop := w.heap.size ≤ w2.heap.size ∧ ∀ b, b < w.heap.size → b ≠ g → w2.heap[b]? = w.heap[b]?
theorem Kept.refl (g : Nat) (w : World) : Kept g w w := ⟨Nat.le_refl _, fun _ _ _ => rfl⟩
theorem Kept.trans {g : Nat} {a b c : World} (h : Kept g a b) (k : Kept g b c) : Kept g a c := ⟨Nat.le_trans h.1 k.1, fun i hi hg => (k.2 i (Nat.lt_of_lt_of_le hi h.1) hg).trans (h.2 i hi hg)⟩
theorem Ext.kept {g : Nat} {a b : World} (h : Ext a b) : Kept g a b := ⟨h.size, fun _ hi _ => h.block hi⟩
theorem Kept.set (g k : Nat) (u : Value) (w : World) : Kept g w (w.setCell ⟨g, k, none⟩ u) := ⟨by simp, fun b _ hb => keep_setCell hb⟩
theorem Cur.keep {w0 w w2 : World} {g : Nat} (h : Cur w0 w g) (x : Ext w0 w2) (k : w2.heap[g]? = w.heap[g]?) : Cur w0 w2 g :=
  let ⟨A, cap, bs, p, hh, h1, _, h3, h4, h5⟩ := h; ⟨A, cap, bs, p, hh, h1, x, h3, h4.keep k, h5⟩
theorem Cur.ext {w0 w w2 : World} {g : Nat} (h : Cur w0 w g) (x : Ext w w2) : Cur w0 w2 g := by
  obtain ⟨A, cap, bs, p, hh, h1, h2, h3, h4, h5⟩ := h
  exact ⟨A, cap, bs, p, hh, h1, h2.trans x, h3, h4.ext x, h5⟩

set_option maxHeartbeats 400000 in
set_option maxRecDepth 20000 in
theorem spec_l1Byte (w0 w : World) (g : Nat) (hc : Cur w0 w g) :
    Calls Tryz.prog 114 #[.pointer (some ⟨g, 0, none⟩)] w fun e w2 => ∃ x, e = .returned (.int .i64 x) ∧ (0 ≤ x ∧ x ≤ 255) ∧ Cur w0 w2 g ∧ Kept g w w2 := by
  obtain ⟨A, cap, bs, p, h, hb, hx, hg, hB, hp, hI⟩ := hc
  have hm := hb.cap_
  have hI' := hI.out
  obtain ⟨c0, f0⟩ := hB.cells
  have c2 : w.cell? ⟨g, 2, none⟩ = some (.int .i64 h) := c0 2
  have f2 : w.frozen? ⟨g, 2, none⟩ = false := f0 2
  clear c0 f0
  obtain ⟨u, hu⟩ : ∃ u, u = wrap64 (wrap64 (h * 6364136223846793005) + 1442695040888963407) := ⟨_, rfl⟩
  have HU := hid hu
  have S1 : Blk (w.setCell ⟨g, 2, none⟩ (.int .i64 u)) g 87 [.slice A bs.length cap, .int .i64 p, .int .i64 u] := Blk.store (done := [.slice A bs.length cap, .int .i64 p]) (z := .int .i64 h) (rest := []) (k := 2) hB rfl (.int .i64 u)
  obtain ⟨W1, hW⟩ : ∃ W1, W1 = w.setCell ⟨g, 2, none⟩ (.int .i64 u) := ⟨_, rfl⟩
  have hu64 : I64 u := by rw [hu]; unfold I64 wrap64; omega
  have hx1 : Ext w0 W1 := by rw [hW]; exact hx.setCell (by simpa using hg) _
  have hk1 : Kept g w W1 := by rw [hW]; exact Kept.set _ _ _ _
  rw [← hW] at S1
  have HW := hid hW
  clear hu hW
  obtain ⟨c0, f0⟩ := S1.cells
  have d0 : ∀ z : ExtOf W1, z.1.cell? ⟨g, 0, none⟩ = some (.slice A bs.length cap) := fun z => z.2.cell (c0 0)
  have d1 : ∀ z : ExtOf W1, z.1.cell? ⟨g, 1, none⟩ = some (.int .i64 p) := fun z => z.2.cell (c0 1)
  have d2 : ∀ z : ExtOf W1, z.1.cell? ⟨g, 2, none⟩ = some (.int .i64 u) := fun z => z.2.cell (c0 2)
  clear c0 f0
  by_cases hlt : p < bs.length
  · obtain ⟨b, off, rfl, hbd, hcb⟩ := hb.u8 hlt
    have d3 : ∀ z : ExtOf W1, z.1.cell? ⟨b, off + p, none⟩ = some (.int .u8 bs[p]) := fun z => (hx1.trans z.2).cell hcb
    go_enter Tryz.func114, Tryz.ntmps114
    go_wp2_with fail
    rw [← HU.out, ← HW.out]
    refine wp_region_ext (by kernel_rfl) (by kernel_rfl) ?_
    repeat (go_big_quiet_step ((fail)))
    refine wpQuiet_nil ?_
    rintro w4 ⟨⟨_, x4⟩, rfl⟩
    have e0 : ∀ z : ExtOf w4, z.1.cell? ⟨g, 0, none⟩ = some (.slice (some ⟨b, off, none⟩) bs.length cap) := fun z => d0 ⟨_, x4.trans z.2⟩
    have e1 : ∀ z : ExtOf w4, z.1.cell? ⟨g, 1, none⟩ = some (.int .i64 p) := fun z => d1 ⟨_, x4.trans z.2⟩
    go_wp2_with fail
    refine wp_region_ext (by kernel_rfl) (by kernel_rfl) ?_
    repeat (go_big_quiet_step ((fail)))
    refine wpQuiet_nil ?_
    rintro w5 ⟨⟨_, x5⟩, rfl⟩
    have k0 : ∀ z : ExtOf w5, z.1.cell? ⟨g, 0, none⟩ = some (.slice (some ⟨b, off, none⟩) bs.length cap) := fun z => e0 ⟨_, x5.trans z.2⟩
    have k1 : ∀ z : ExtOf w5, z.1.cell? ⟨g, 1, none⟩ = some (.int .i64 p) := fun z => e1 ⟨_, x5.trans z.2⟩
    have k3 : ∀ z : ExtOf w5, z.1.cell? ⟨b, off + p, none⟩ = some (.int .u8 bs[p]) := fun z => d3 ⟨_, (x4.trans x5).trans z.2⟩
    go_wp2_with fail
    refine wp_region_ext (by kernel_rfl) (by kernel_rfl) ?_
    repeat (go_big_quiet_step ((fail)))
    refine wpQuiet_nil ?_
    rintro w6 ⟨⟨_, x6⟩, rfl⟩
    have S6 := S1.ext ((x4.trans x5).trans x6)
    have m1 := (S6.cells).1 1
    have n1 := (S6.cells).2 1
    have m1 : w6.cell? ⟨g, 1, none⟩ = some (.int .i64 p) := m1
    go_wp2
    go_ret
    refine ⟨_, rfl, ?_, ⟨_, _, bs, p + 1, u, hb, ((hx1.trans ((x4.trans x5).trans x6)).setCell (by simpa using hg) _), hg, ?_, hlt, hu64⟩, (hk1.trans ((x4.trans x5).trans x6).kept).trans (Kept.set _ _ _ _)⟩
    · rw [i64_and255]; omega
    · have := Blk.store (done := [.slice (some ⟨b, off, none⟩) bs.length cap]) (z := .int .i64 p) (rest := [.int .i64 u]) (k := 1) S6 rfl (.int .i64 ((p : Int) + 1))
      exact this
  · go_enter Tryz.func114, Tryz.ntmps114
    go_wp2_with fail
    rw [← HU.out, ← HW.out]
    refine wp_region_ext (by kernel_rfl) (by kernel_rfl) ?_
    repeat (go_big_quiet_step ((fail)))
    refine wpQuiet_nil ?_
    rintro w4 ⟨⟨_, x4⟩, rfl⟩
    have e0 : ∀ z : ExtOf w4, z.1.cell? ⟨g, 0, none⟩ = some (.slice A bs.length cap) := fun z => d0 ⟨_, x4.trans z.2⟩
    have e1 : ∀ z : ExtOf w4, z.1.cell? ⟨g, 1, none⟩ = some (.int .i64 p) := fun z => d1 ⟨_, x4.trans z.2⟩
    go_wp2_with fail
    refine wp_region_ext (by kernel_rfl) (by kernel_rfl) ?_
    repeat (go_big_quiet_step ((fail)))
    refine wpQuiet_nil ?_
    rintro w5 ⟨⟨_, x5⟩, rfl⟩
    go_wp2
    go_ret
    refine ⟨_, rfl, ?_, ⟨_, _, bs, p, u, hb, hx1.trans (x4.trans x5), hg, S1.ext (x4.trans x5), hp, hu64⟩, hk1.trans (x4.trans x5).kept⟩
    rw [i64_and255]; omega

set_option maxHeartbeats 400000 in
theorem spec_l1Below (w0 w : World) (g : Nat) (n : Int) (hn : 1 ≤ n ∧ n ≤ 256) (hc : Cur w0 w g) :
    Calls Tryz.prog 63 #[.pointer (some ⟨g, 0, none⟩), .int .i64 n] w fun e w2 => ∃ x, e = .returned (.int .i64 x) ∧ (0 ≤ x ∧ x < n) ∧ Cur w0 w2 g ∧ Kept g w w2 := by
  have hz : ¬ n = 0 := by omega
  go_enter Tryz.func63, Tryz.ntmps63
  go_wp2_with fail
  refine (spec_l1Byte w0 w g hc).mono ?_
  rintro e w2 ⟨x, rfl, hx, hc2, hk⟩
  go_wp2
  go_ret
  refine ⟨_, rfl, ?_, hc2, hk⟩
  first | exact ⟨Int.tmod_nonneg _ hx.1, Int.tmod_lt_of_pos _ (by omega)⟩ | exact ⟨Int.emod_nonneg _ (by omega), Int.emod_lt_of_pos _ (by omega)⟩

set_option maxHeartbeats 400000 in
theorem spec_l1Once (w0 w : World) (g : Nat) (n : Int) (hn : 1 ≤ n ∧ n ≤ 256) (hc : Cur w0 w g) :
    Calls Tryz.prog 78 #[.pointer (some ⟨g, 0, none⟩), .int .i64 n] w fun e w2 => ∃ x, e = .returned (.bool x) ∧ Cur w0 w2 g ∧ Kept g w w2 := by
  go_enter Tryz.func78, Tryz.ntmps78
  go_wp2_with fail
  refine (spec_l1Below w0 w g n hn hc).mono ?_
  rintro e w2 ⟨x, rfl, hx, hc2, hk⟩
  go_wp2
  go_ret
  exact ⟨_, rfl, hc2, hk⟩
end Go.Proofs.YtidchfncfcckiaaGreat

namespace Go.Proofs.YtidchfncfcckiaaGreat
open Go.RowKit

noncomputable def checkP (m : List (List Int)) (l : List Constraint) (c : Clust) : Bool := (partB c.labels && keepsB c.labels l) && decide (0 ≤ c.cost) && decide (pcostP m c.labels = c.cost) && (if c.exact = true then decide (c.gap = 0) && decide (bcostP m l = c.cost) else decide (c.gap = gapP m c.labels))
theorem pcost_ok {m : List (List Int)} {l : List Int} (h : 0 ≤ pcostP m l) : WM m ∧ partB l = true ∧ l.length = m.length := by
  by_cases hy : wmB m = true ∧ partB l = true ∧ l.length = m.length
  · exact ⟨wmB_iff.1 hy.1, hy.2⟩
  · rw [pcost_no hy] at h
    exact absurd h (by decide)
set_option maxHeartbeats 2000000 in
set_option maxRecDepth 20000 in
theorem impl_CheckClustering (v u z : Value) (m : List (List Int)) (l : List Constraint) (c : Clust) (w : World) (h : Sl (slR intR) w v m) (k : Sl constraintR w u l) (r : Sl intR w z c.labels) :
    Calls Tryz.prog 14 #[v, u, .agg #[z, .int .i64 c.cost, .bool c.exact, .int .i64 c.gap]] w fun e w2 => e = .returned (.bool (checkP m l c)) ∧ Ext w w2 := by
  obtain ⟨L, cost, ex, gap⟩ := c
  dsimp only at r ⊢
  obtain ⟨A, cap, rfl, hm1⟩ := h.form
  obtain ⟨B, cap2, rfl, hm2⟩ := k.form
  obtain ⟨C, cap3, rfl, hm3⟩ := r.form
  obtain ⟨wb, hwb⟩ : ∃ W, W = w.alloc (.cells #[.slice C L.length cap3, .int .i64 cost, .bool ex, .int .i64 gap] 30) := ⟨_, rfl⟩
  have xb : Ext w wb := by rw [hwb]; exact (Ext.refl _).alloc _
  have b := Blk.new w 30 #[.slice C L.length cap3, .int .i64 cost, .bool ex, .int .i64 gap]
  rw [← hwb] at b
  have HW := hid hwb
  have HX := hid xb
  have HBX := hid (show ∀ W, Ext wb W → W.cell? ⟨w.heap.size, 0, none⟩ = some (.slice C L.length cap3) ∧ W.cell? ⟨w.heap.size, 3, none⟩ = some (.int .i64 gap) from fun W y => ⟨(b.ext y).cells.1 0, (b.ext y).cells.1 3⟩)
  have y0 : ∀ z : ExtOf wb, z.1.cell? ⟨w.heap.size, 0, none⟩ = some (.slice C L.length cap3) := fun z => (b.ext z.2).cells.1 0
  have y1 : ∀ z : ExtOf wb, z.1.cell? ⟨w.heap.size, 1, none⟩ = some (.int .i64 cost) := fun z => (b.ext z.2).cells.1 1
  have c2 : ∀ W, Ext wb W → W.cell? ⟨w.heap.size, 2, none⟩ = some (.bool ex) := fun W y => (b.ext y).cells.1 2
  have y3 : ∀ z : ExtOf wb, z.1.cell? ⟨w.heap.size, 3, none⟩ = some (.int .i64 gap) := fun z => (b.ext z.2).cells.1 3
  have HC2 := hid c2
  have HKC := hid (fun (z : ExtOf wb) => impl_KeepsConstraints _ _ L l z.1 (r.mono (xb.trans z.2)) (k.mono (xb.trans z.2)))
  have HPC := hid (fun (z : ExtOf wb) => impl_PartitionCost _ _ m L z.1 (h.mono (xb.trans z.2)) (r.mono (xb.trans z.2)))
  have HBC := hid (fun (z : ExtOf wb) => impl_BestCost _ _ m l z.1 (h.mono (xb.trans z.2)) (k.mono (xb.trans z.2)))
  have HGP := hid (fun (hm : WM m) (W : World) (y : Ext w W) => impl_GreedyPacking _ m W (h.mono y) hm)
  have HGA := hid (fun (hm : WM m) (hpp : partB L = true) (hpl : L.length = m.length) (hgp : PackB m (greedyL m)) (hgl : (greedyL m).length ≤ 56) (W : World) (y : Ext w W) (z q : Value) (p : Sl intR W z L) (r : Sl triangleR W q (greedyL m)) => impl_OptimalityGap _ z q m L (greedyL m) W (h.mono y) p r hm hgp hgl hpp hpl)
  have HRM := hid (fun (W : World) (y : Ext w W) => r.mono y)
  have HV := hid (show checkP m l ⟨L, cost, ex, gap⟩ = ((partB L && keepsB L l) && decide (0 ≤ cost) && decide (pcostP m L = cost) && (if ex = true then decide (gap = 0) && decide (bcostP m l = cost) else decide (gap = gapP m L))) from rfl)
  have HPY := hid (fun (h0 : 0 ≤ cost) (he : pcostP m L = cost) => pcost_ok (m := m) (l := L) (by omega))
  obtain ⟨r0, hr0⟩ : ∃ r0, r0 = checkP m l ⟨L, cost, ex, gap⟩ := ⟨_, rfl⟩
  rw [← hr0] at HV ⊢
  obtain ⟨kp, hkp⟩ : ∃ q, q = (partB L && keepsB L l) := ⟨_, rfl⟩
  rw [← hkp] at HV HKC
  obtain ⟨pc, hpc⟩ : ∃ q, q = pcostP m L := ⟨_, rfl⟩
  rw [← hpc] at HV HPC HPY
  obtain ⟨bc, hbc⟩ : ∃ q, q = bcostP m l := ⟨_, rfl⟩
  rw [← hbc] at HV HBC
  have HGV := hid (show gapP m L = costP m L - sumT (greedyL m) from rfl)
  clear hr0 hkp hpc hbc hwb xb b h k r c2
  cases kp with
  | false =>
    have HR := hid (show r0 = false from by rw [HV.out]; rfl)
    go_enter Tryz.func14, Tryz.ntmps14
    go_wp2_with fail
    rw [← HW.out]
    refine wp_region_ext (by kernel_rfl) (by kernel_rfl) ?_
    repeat (go_big_quiet_step ((first | (go_at_call 65; exact quiet_ext (HKC.out _)))))
    refine wpQuiet_nil ?_
    rintro w5 ⟨⟨_, x5⟩, rfl⟩
    go_wp2
    go_ret
    exact ⟨ret_bool HR.out.symm, HX.out.trans x5⟩
  | true =>
  by_cases h0 : 0 ≤ cost
  · have hd0 : decide (cost < 0) = false := by rw [decide_eq_false_iff_not]; omega
    by_cases he : pc = cost
    · have hn1 : (cost != pc) = false := by simp [he]
      have hn2 : (pc != cost) = false := by simp [he]
      have HRR := hid (show r0 = (if ex = true then decide (gap = 0) && decide (bc = cost) else decide (gap = gapP m L)) from by rw [HV.out, decide_eq_true h0, decide_eq_true he]; simp)
      obtain ⟨w1, w2, w3⟩ := HPY.out h0 he
      have HP := hid (And.intro w1 (And.intro w2 w3))
      clear h0 he w1 w2 w3
      cases ex with
      | true =>
        rw [if_pos rfl] at HRR
        by_cases hg : gap = 0
        · have hg1 : (gap == 0) = true := by simp [hg]
          by_cases hbe : bc = cost
          · have hb1 : (cost == bc) = true := by simp [hbe]
            have hb2 : (bc == cost) = true := by simp [hbe]
            have HR := hid (show r0 = true from by rw [HRR.out, decide_eq_true hg, decide_eq_true hbe]; rfl)
            clear hg hbe
            go_enter Tryz.func14, Tryz.ntmps14
            go_wp2_with fail
            rw [← HW.out]
            refine wp_region_ext (by kernel_rfl) (by kernel_rfl) ?_
            repeat (go_big_quiet_step ((first | (go_at_call 65; exact quiet_ext (HKC.out _)) | (go_at_call 66; exact quiet_ext (HPC.out _)))))
            refine wpQuiet_nil ?_
            rintro w5 ⟨⟨_, x5⟩, rfl⟩
            have c2 := HC2.out _ x5
            have HBC := hid (fun (z : ExtOf w5) => HBC.out ⟨z.1, x5.trans z.2⟩)
            go_wp2_with fail
            have y1 := fun (z : ExtOf w5) => y1 ⟨z.1, x5.trans z.2⟩
            have y3 := fun (z : ExtOf w5) => y3 ⟨z.1, x5.trans z.2⟩
            refine wp_region_ext (by kernel_rfl) (by kernel_rfl) ?_
            repeat (go_big_quiet_step ((first | (go_at_call 17; exact quiet_ext (HBC.out _)))))
            refine wpQuiet_nil ?_
            rintro w6 ⟨⟨_, x6⟩, rfl⟩
            go_wp2
            go_ret
            exact ⟨ret_bool HR.out.symm, HX.out.trans (x5.trans x6)⟩
          · have hb1 : (cost == bc) = false := by rw [beq_eq_false_iff_ne]; exact fun e => hbe e.symm
            have hb2 : (bc == cost) = false := by rw [beq_eq_false_iff_ne]; exact hbe
            have HR := hid (show r0 = false from by rw [HRR.out, decide_eq_false hbe, Bool.and_false])
            clear hg hbe
            go_enter Tryz.func14, Tryz.ntmps14
            go_wp2_with fail
            rw [← HW.out]
            refine wp_region_ext (by kernel_rfl) (by kernel_rfl) ?_
            repeat (go_big_quiet_step ((first | (go_at_call 65; exact quiet_ext (HKC.out _)) | (go_at_call 66; exact quiet_ext (HPC.out _)))))
            refine wpQuiet_nil ?_
            rintro w5 ⟨⟨_, x5⟩, rfl⟩
            have c2 := HC2.out _ x5
            have HBC := hid (fun (z : ExtOf w5) => HBC.out ⟨z.1, x5.trans z.2⟩)
            go_wp2_with fail
            have y1 := fun (z : ExtOf w5) => y1 ⟨z.1, x5.trans z.2⟩
            have y3 := fun (z : ExtOf w5) => y3 ⟨z.1, x5.trans z.2⟩
            refine wp_region_ext (by kernel_rfl) (by kernel_rfl) ?_
            repeat (go_big_quiet_step ((first | (go_at_call 17; exact quiet_ext (HBC.out _)))))
            refine wpQuiet_nil ?_
            rintro w6 ⟨⟨_, x6⟩, rfl⟩
            go_wp2
            go_ret
            exact ⟨ret_bool HR.out.symm, HX.out.trans (x5.trans x6)⟩
        · have hg1 : (gap == 0) = false := by simp [hg]
          have HR := hid (show r0 = false from by rw [HRR.out, decide_eq_false hg, Bool.false_and])
          clear hg
          go_enter Tryz.func14, Tryz.ntmps14
          go_wp2_with fail
          rw [← HW.out]
          refine wp_region_ext (by kernel_rfl) (by kernel_rfl) ?_
          repeat (go_big_quiet_step ((first | (go_at_call 65; exact quiet_ext (HKC.out _)) | (go_at_call 66; exact quiet_ext (HPC.out _)))))
          refine wpQuiet_nil ?_
          rintro w5 ⟨⟨_, x5⟩, rfl⟩
          have c2 := HC2.out _ x5
          have HBC := hid (fun (z : ExtOf w5) => HBC.out ⟨z.1, x5.trans z.2⟩)
          go_wp2_with fail
          have y1 := fun (z : ExtOf w5) => y1 ⟨z.1, x5.trans z.2⟩
          have y3 := fun (z : ExtOf w5) => y3 ⟨z.1, x5.trans z.2⟩
          refine wp_region_ext (by kernel_rfl) (by kernel_rfl) ?_
          repeat (go_big_quiet_step ((first | (go_at_call 17; exact quiet_ext (HBC.out _)))))
          refine wpQuiet_nil ?_
          rintro w6 ⟨⟨_, x6⟩, rfl⟩
          go_wp2
          go_ret
          exact ⟨ret_bool HR.out.symm, HX.out.trans (x5.trans x6)⟩
      | false =>
        rw [if_neg (by decide)] at HRR
        obtain ⟨hgp, hgl⟩ := greedy_pack HP.out.1
        have HGP := hid (HGP.out HP.out.1)
        have HGA := hid (HGA.out HP.out.1 HP.out.2.1 HP.out.2.2 hgp hgl)
        rw [← HGV.out] at HGA
        obtain ⟨G, hG⟩ : ∃ G, G = gapP m L := ⟨_, rfl⟩
        rw [← hG] at HGA HRR
        have hR9 : (gap == G) = r0 := by
          rw [HRR.out, Bool.eq_iff_iff, beq_iff_eq, decide_eq_true_eq]
        clear hG hgp hgl
        go_enter Tryz.func14, Tryz.ntmps14
        go_wp2_with fail
        rw [← HW.out]
        refine wp_region_ext (by kernel_rfl) (by kernel_rfl) ?_
        repeat (go_big_quiet_step ((first | (go_at_call 65; exact quiet_ext (HKC.out _)) | (go_at_call 66; exact quiet_ext (HPC.out _)))))
        refine wpQuiet_nil ?_
        rintro w5 ⟨⟨_, x5⟩, rfl⟩
        have c2 := HC2.out _ x5
        go_wp2_with fail
        go_region_held3 (fun w' => w'.cell? ⟨w.heap.size, 0, none⟩ = some (.slice C L.length cap3) ∧ w'.cell? ⟨w.heap.size, 3, none⟩ = some (.int .i64 gap))
          (exact HBX.out _ (by repeat (first | with_reducible exact Ext.refl _ | with_reducible assumption | with_reducible refine Ext.drew ?_ | with_reducible refine Ext.alloc ?_ _ | with_reducible refine Ext.trans ?_ (by with_reducible assumption))))
          (first | (go_at_call 39; refine (HGP.out _ ?hx).mono ?_; (case hx => exact HX.out.trans (by repeat (first | with_reducible exact Ext.refl _ | with_reducible assumption | with_reducible refine Ext.drew ?_ | with_reducible refine Ext.alloc ?_ _ | with_reducible refine Ext.trans ?_ (by with_reducible assumption)))); rintro e wa ⟨va, Fa, rfl, oa, na, xa⟩; have ga := oa.sl; obtain ⟨Aa, ca, ea, _⟩ := oa.form; subst ea; clear oa na) | (go_at_call 38; refine (HGA.out _ ?hx _ _ ?hs ?ht).mono ?_; (case hx => exact HX.out.trans (by repeat (first | with_reducible exact Ext.refl _ | with_reducible assumption | with_reducible refine Ext.drew ?_ | with_reducible refine Ext.alloc ?_ _ | with_reducible refine Ext.trans ?_ (by with_reducible assumption)))); (case hs => exact HRM.out _ (HX.out.trans (by repeat (first | with_reducible exact Ext.refl _ | with_reducible assumption | with_reducible refine Ext.drew ?_ | with_reducible refine Ext.alloc ?_ _ | with_reducible refine Ext.trans ?_ (by with_reducible assumption))))); (case ht => exact ga.mono (by repeat (first | with_reducible exact Ext.refl _ | with_reducible assumption | with_reducible refine Ext.drew ?_ | with_reducible refine Ext.alloc ?_ _ | with_reducible refine Ext.trans ?_ (by with_reducible assumption)))); rintro e wc ⟨rfl, xc⟩))
        all_goals
          go_wp2
          go_ret
          exact ⟨ret_bool rfl, HX.out.trans (by repeat (first | with_reducible exact Ext.refl _ | with_reducible assumption | with_reducible refine Ext.drew ?_ | with_reducible refine Ext.alloc ?_ _ | with_reducible refine Ext.trans ?_ (by with_reducible assumption)))⟩
    · have hn1 : (cost != pc) = true := by rw [bne_iff_ne]; exact fun e => he e.symm
      have hn2 : (pc != cost) = true := by rw [bne_iff_ne]; exact he
      have HR := hid (show r0 = false from by rw [HV.out, decide_eq_false he]; simp)
      clear h0 he
      go_enter Tryz.func14, Tryz.ntmps14
      go_wp2_with fail
      rw [← HW.out]
      refine wp_region_ext (by kernel_rfl) (by kernel_rfl) ?_
      repeat (go_big_quiet_step ((first | (go_at_call 65; exact quiet_ext (HKC.out _)) | (go_at_call 66; exact quiet_ext (HPC.out _)))))
      refine wpQuiet_nil ?_
      rintro w5 ⟨⟨_, x5⟩, rfl⟩
      go_wp2
      go_ret
      exact ⟨ret_bool HR.out.symm, HX.out.trans x5⟩
  · have hd0 : decide (cost < 0) = true := by rw [decide_eq_true_eq]; omega
    have HR := hid (show r0 = false from by rw [HV.out, decide_eq_false h0]; simp)
    clear h0
    go_enter Tryz.func14, Tryz.ntmps14
    go_wp2_with fail
    rw [← HW.out]
    refine wp_region_ext (by kernel_rfl) (by kernel_rfl) ?_
    repeat (go_big_quiet_step ((first | (go_at_call 65; exact quiet_ext (HKC.out _)))))
    refine wpQuiet_nil ?_
    rintro w5 ⟨⟨_, x5⟩, rfl⟩
    go_wp2
    go_ret
    exact ⟨ret_bool HR.out.symm, HX.out.trans x5⟩
end Go.Proofs.YtidchfncfcckiaaGreat

namespace Go.Proofs.YtidchfncfcckiaaGreat
open Go.RowKit

def meetL (a b : List Int) : List Int := (List.range a.length).map fun i => a.getD i 0 * 8 + b.getD i 0
theorem meetL_len (a b : List Int) : (meetL a b).length = a.length := by unfold meetL; rw [List.length_map, List.length_range]
theorem meetL_at {a b : List Int} {i : Nat} (h : i < a.length) : (meetL a b).getD i 0 = a.getD i 0 * 8 + b.getD i 0 := by
  rw [getD_getElem (by rw [meetL_len]; exact h)]
  unfold meetL
  rw [List.getElem_map, List.getElem_range]
theorem meetL_take {a b : List Int} {k : Nat} (h : k < a.length) (h2 : k < b.length) : (meetL a b).take (k + 1) = (meetL a b).take k ++ [a[k] * 8 + b[k]] := by
  rw [List.take_succ_eq_append_getElem (by rw [meetL_len]; exact h), ← getD_getElem (d := 0) (by rw [meetL_len]; exact h), meetL_at h, getD_getElem h, getD_getElem h2]
/-- what a finer partition's meet is -/
theorem meet_fine {a b : List Int} (ht : twoB a b) (h : ∀ x y, x < a.length → y < a.length → a.getD x 0 = a.getD y 0 → b.getD x 0 = b.getD y 0) : canonL (meetL a b) = a := by
  obtain ⟨h1, h2, h3⟩ := ht
  rw [← canonL_of_rg (partB_iff.1 h1).1]
  have e : meetL (canonL a) b = meetL a b := by rw [canonL_of_rg (partB_iff.1 h1).1]
  rw [e]
  refine canonL_eq ⟨meetL_len a b, fun x y hx hy => ?_⟩
  rw [meetL_len] at hx hy
  rw [meetL_at hx, meetL_at hy]
  have bx := RG.bd8 h2 (i := x) (by omega)
  have b2 := RG.bd8 h2 (i := y) (by omega)
  rw [← getD_getElem (d := 0)] at bx b2
  constructor
  · intro e; omega
  · intro e; rw [e, h x y hx hy e]

set_option maxHeartbeats 1000000 in
set_option maxRecDepth 20000 in
theorem impl_MeetPartitions (v u : Value) (a b : List Int) (w : World) (h : Sl intR w v a) (k : Sl intR w u b) (ht : twoB a b) :
    Calls Tryz.prog 69 #[v, u] w fun e w2 => ∃ v2 F, e = .returned v2 ∧ OwnSl intO w2 v2 (canonL (meetL a b)) F ∧ NewF w F ∧ Ext w w2 := by
  have HA := hid (impl_arePartitions v u a b w h k)
  rw [twoC_iff.2 ht] at HA
  obtain ⟨h1, h2, h3⟩ := ht
  have HB1 := hid (fun (i : Nat) (hi : i < a.length) => RG.bd8 h1 hi)
  have HB2 := hid (fun (i : Nat) (hi : i < b.length) => RG.bd8 h2 hi)
  have h8 := (partB_iff.1 h1).2.2
  have H3 := hid h3
  have HMT := hid (fun (j : Nat) (q : j < a.length) (r : j < b.length) => meetL_take q r)
  have HML := hid (meetL_len a b)
  obtain ⟨M, hM⟩ : ∃ M, M = meetL a b := ⟨_, rfl⟩
  rw [← hM] at HMT HML ⊢
  obtain ⟨A, cap, rfl, hm⟩ := h.form
  obtain ⟨B, cap2, rfl, hm2⟩ := k.form
  clear h1 h2 h3 hM
  go_enter Tryz.func69, Tryz.ntmps69
  go_wp2_with fail
  refine (HA.out).mono ?_
  rintro e w2 ⟨rfl, rfl⟩
  go_wp2_with fail
  go_loopw [5, 13] (fun t i wr => ∃ j : Nat, j ≤ a.length ∧ i = .int .i64 j ∧ Bld intO wr w.heap.size 3 t (M.take j) [] ∧ Ext w wr) (fun _ i _ => a.length - (intOf i).toNat)
  case atStart => exact ⟨0, Nat.zero_le _, rfl, Bld.nil _ _ _, Ext.refl _⟩
  case round =>
    obtain ⟨j, hj, rfl, hB, hx⟩ := hrel
    by_cases hlt : j < a.length
    · have hlt2 : j < b.length := by have := H3.out; omega
      obtain ⟨bA, oA, rfl, hIa, cA⟩ := (h.mono hx).int hlt
      obtain ⟨bB, oB, rfl, hIb, cB⟩ := (k.mono hx).int hlt2
      have b1 := HB1.out j hlt
      have b2 := HB2.out j hlt2
      have HS := hid (HMT.out j hlt hlt2)
      have HSZ := hid (show (M.take j).length + 1 ≤ 1099511627776 by rw [List.length_take]; omega)
      obtain ⟨x, hxe⟩ : ∃ x, x = a[j] := ⟨_, rfl⟩
      obtain ⟨y, hye⟩ : ∃ y, y = b[j] := ⟨_, rfl⟩
      rw [← hxe] at cA b1 HS
      rw [← hye] at cB b2 HS
      have HI := hid (show I64 (x * 8 + y) from by unfold I64; omega)
      have y0 : ∀ z : ExtOf wr, z.1.cell? ⟨bA, oA + j, none⟩ = some (.int .i64 x) := fun z => z.2.cell cA
      have y1 : ∀ z : ExtOf wr, z.1.cell? ⟨bB, oB + j, none⟩ = some (.int .i64 y) := fun z => z.2.cell cB
      clear hxe hye hIa hIb
      go_wp2_with fail
      refine wp_region_ext1 10 (by kernel_rfl) (by kernel_rfl) rfl rfl (fun _ _ _ _ h => h) ?_
      simp only [List.take_succ_cons, List.take_zero, List.drop_succ_cons, List.drop_zero]
      repeat (go_big_quiet_step ((fail)))
      refine wpQuiet_nil ?_
      rintro w3 ⟨⟨_, x3⟩, rfl⟩
      have hB2 := hB.ext x3
      have hbs := (hx.trans x3).size
      go_wp2_with (at_builtin; refine wpList_app1 (R := intO) elemInt (by decide) rfl _ _ rfl hB2 rfl w3.heap.size 1 rfl rfl (one_int _) (y := x * 8 + y) (own_int _ _ HI.out) fresh_nil HSZ.out (by decide) hbs ?_; intro v9 w9 hB9 hE9)
      go_roundw
      case rel => exact ⟨j + 1, by omega, by go_num, by rw [HS.out]; exact hB9, hE9 _ (Nat.le_refl _) (hx.trans x3)⟩
      case measure => simp [intOf]; omega
    · have hMt : M.take j = M := List.take_of_length_le (by have := HML.out; omega)
      rw [hMt] at hB
      have HCL := hid (impl_CanonicalLabels _ M wr hB.sl (by have := HML.out; omega))
      clear hMt hB
      go_wp2_with fail
      refine (HCL.out).mono ?_
      rintro e w3 ⟨v3, F3, rfl, o3, n3, x3⟩
      go_wp2
      go_ret
      exact ⟨v3, F3, rfl, o3, n3.ext hx, hx.trans x3⟩
set_option maxHeartbeats 400000 in
theorem impl_RefinesPartition (v u : Value) (a b : List Int) (w : World) (h : Sl intR w v a) (k : Sl intR w u b) (ht : twoB a b) :
    Calls Tryz.prog 16 #[v, u] w fun e w2 => e = .returned (.bool (eqB (canonL (meetL a b)) a)) ∧ Ext w w2 := by
  have HA := hid (impl_arePartitions v u a b w h k)
  rw [twoC_iff.2 ht] at HA
  have HM := hid (impl_MeetPartitions v u a b w h k ht)
  obtain ⟨A, cap, rfl, hm⟩ := h.form
  obtain ⟨B, cap2, rfl, hm2⟩ := k.form
  have HE := hid (fun (z : Value) (W : World) (y : Ext w W) (q : Sl intR W z (canonL (meetL a b))) => slices_Equal z _ _ a W q (h.mono y))
  obtain ⟨r, hr⟩ : ∃ r, r = eqB (canonL (meetL a b)) a := ⟨_, rfl⟩
  rw [← hr] at HE ⊢
  clear h k ht hr
  go_enter Tryz.func16, Tryz.ntmps16
  go_wp2_with fail
  refine (HA.out).mono ?_
  rintro e w2 ⟨rfl, rfl⟩
  go_wp2_with fail
  refine (HM.out).mono ?_
  rintro e w3 ⟨v3, F3, rfl, o3, n3, x3⟩
  have HE := hid (HE.out v3 w3 x3 o3.sl)
  clear o3 n3
  go_wp2_with fail
  refine (HE.out).mono ?_
  rintro e w4 ⟨rfl, x4⟩
  go_wp2
  go_ret
  exact ⟨rfl, x3.trans x4⟩
/-- equal clusterings are told equal -/
theorem impl_EqualClusterings (v u : Value) (x : Clust) (w : World) (h : Sl intR w v x.labels) (k : Sl intR w u x.labels) :
    Calls Tryz.prog 10 #[.agg #[v, .int .i64 x.cost, .bool x.exact, .int .i64 x.gap], .agg #[u, .int .i64 x.cost, .bool x.exact, .int .i64 x.gap]] w fun e w2 => e = .returned (.bool true) ∧ Ext w w2 := by
  have b0 : (x.cost == x.cost) = true := by simp
  have b1 : (x.exact == x.exact) = true := by simp
  have b2 : (x.gap == x.gap) = true := by simp
  obtain ⟨A, cap, rfl, hm⟩ := h.form
  obtain ⟨B, cap2, rfl, hm2⟩ := k.form
  have HE := hid (fun (W : World) (y : Ext w W) => slices_Equal _ _ x.labels x.labels W (h.mono y) (k.mono y))
  clear h k
  obtain ⟨wb, hwb⟩ : ∃ W, W = (w.alloc (.cells #[.slice A x.labels.length cap, .int .i64 x.cost, .bool x.exact, .int .i64 x.gap] 30)).alloc (.cells #[.slice B x.labels.length cap2, .int .i64 x.cost, .bool x.exact, .int .i64 x.gap] 30) := ⟨_, rfl⟩
  have xb : Ext w wb := by rw [hwb]; exact ((Ext.refl _).alloc _).alloc _
  have h1 := (Blk.new w 30 #[.slice A x.labels.length cap, .int .i64 x.cost, .bool x.exact, .int .i64 x.gap]).ext ((Ext.refl _).alloc (.cells #[.slice B x.labels.length cap2, .int .i64 x.cost, .bool x.exact, .int .i64 x.gap] 30))
  have h2 := Blk.new (w.alloc (.cells #[.slice A x.labels.length cap, .int .i64 x.cost, .bool x.exact, .int .i64 x.gap] 30)) 30 #[.slice B x.labels.length cap2, .int .i64 x.cost, .bool x.exact, .int .i64 x.gap]
  rw [World.size_alloc] at h2
  rw [← hwb] at h1 h2
  have HB1 := hid h1
  have HB2 := hid h2
  have HX := hid xb
  have HW := hid hwb
  clear hwb xb h1 h2
  go_enter Tryz.func10, Tryz.ntmps10
  go_wp2_with fail
  rw [← HW.out]
  refine (HE.out _ HX.out).mono ?_
  rintro e w2 ⟨rfl, x2⟩
  rw [eqB_self]
  obtain ⟨p0, p1, p2, p3⟩ := (HB1.out.ext x2).c4.1
  obtain ⟨q0, q1, q2, q3⟩ := (HB2.out.ext x2).c4.1
  go_wp2
  go_ret
  exact ⟨rfl, HX.out.trans x2⟩
end Go.Proofs.YtidchfncfcckiaaGreat

namespace Go.Proofs.YtidchfncfcckiaaGreat
open Go.RowKit

theorem Cur.base {w0 w : World} {g : Nat} (h : Cur w0 w g) : Ext w0 w ∧ w0.heap.size ≤ g ∧ g < w.heap.size := by
  obtain ⟨A, cap, bs, p, hh, h1, h2, h3, h4, h5⟩ := h
  exact ⟨h2, h3, block_lt h4⟩
theorem Bld.kept {α : Type} {R : RepO α} {w w2 : World} {base g : Nat} {e : TypeId} {v : Value} {xs : List α} {F : List Nat} (h : Bld R w base e v xs F) (hg : g < base) (k : Kept g w w2) : Bld R w2 base e v xs F :=
  h.keep fun b hb hl => k.2 b hl (by omega)
theorem OwnSl.kept {α : Type} {R : RepO α} {w w2 : World} {g : Nat} {v : Value} {xs : List α} {F : List Nat} (h : OwnSl R w v xs F) (hg : g ∉ F) (k : Kept g w w2) : OwnSl R w2 v xs F :=
  h.keep fun b hb => k.2 b (h.lt b hb) (fun e => hg (e ▸ hb))
/-- an append; what it leaves, block by block -/
theorem wpList_app1g {P : Program} {α : Type} {R : RepO α} {ops : Array Oper} {rest : List Oper} {o : Oper} {a : Act} {W : World} {Q : Exit → Act → World → Prop} {t e : TypeId} {bytes : Nat} (E : ElemT P t e R.n bytes) (hsz : 0 < R.n)
    (hgd : o.guard = none) (s x : Operand) (ho : o.op = .call { callee := .builtin .append, args := #[s, x], argTypes := #[t, t] })
    {base : Nat} {v : Value} {xs : List α} {F : List Nat} (hb : Bld R W base e v xs F) (hs : a.eval s = v) {c : Array Value} {T : TypeId} (g k : Nat) (hx : a.eval x = .slice (some ⟨g, 0, none⟩) 1 k) (hg : g = W.heap.size)
    (h1 : ∀ u ∈ c.toList, u.oneCell' = true) {y : α} {G : List Nat} (hy : R.own W c.toList y G) (hG : (∀ b ∈ G, b ∉ F ∧ v.ownBlock ≠ some b) ∧ G.Nodup ∧ ∀ b ∈ G, base ≤ b)
    (hbytes : xs.length + 1 ≤ 1099511627776) (hby : bytes ≤ 128) (hbase : base ≤ W.heap.size)
    (h : ∀ v' w', Bld R w' base e v' (xs ++ [y]) (F ++ G) → (∀ w0 : World, w0.heap.size ≤ base → Ext w0 W → Ext w0 w') → W.heap.size ≤ w'.heap.size → (∀ b, b < base → w'.heap[b]? = W.heap[b]?) → wpList P ops Q rest (a.put o.dst v') w') :
    wpList P ops Q (o :: rest) a (W.alloc (.cells c T)) := by
  obtain ⟨ht, i, z, hi, hz, hsize, hby2, hzs⟩ := E
  have x1 : Ext W (W.alloc (.cells c T)) := (Ext.refl W).alloc _
  have hb1 := hb.ext x1
  have hl := hb1.lt
  obtain ⟨cs, b1, b2, b3, b4, b5⟩ := hb1
  have hy1 : R.own (W.alloc (.cells c T)) c.toList y G := R.own_keep (fun b hb => x1.block (R.own_lt hy b hb)) hy
  refine wpList_append_own_at (W.alloc (.cells c T)) hgd s x t ho base e i z R.n bytes ht hi hz hsize hby2 hzs hsz v xs.length cs hs b1 ⟨g, 0, none⟩ 1 k c.toList hx (by rw [R.len (R.own_rd hy), Nat.one_mul]) (fun j u hj => ?_) h1
    (by unfold maxLen; omega) (Nat.le_trans (Nat.mul_le_mul hbytes hby) (by decide)) (Nat.le_trans hbase x1.size) ?_
  · subst hg
    have : (W.alloc (.cells c T)).cell? ⟨W.heap.size, j, none⟩ = c[j]? := ((Ext.refl (W.alloc (.cells c T))).box).1 j
    rw [add_eq, Nat.zero_add, this]
    simpa using hj
  · intro v' w' hown hgr _ hat
    obtain ⟨h5, h6⟩ := bld_grown hl b2 b3 b4 b5 hy1 hG hown hgr hat
    refine h _ _ h5 (fun w0 h7 h8 => h6 w0 h7 (h8.trans x1)) (Nat.le_trans x1.size hgr.size) fun b hb => ?_
    have hbW : b < W.heap.size := by omega
    rw [hgr.block b (Nat.lt_of_lt_of_le hbW x1.size) (fun e => by have := (hl.2 b e.symm).2; omega), x1.block hbW]

set_option maxHeartbeats 400000 in
theorem spec_l1PickInt (w0 w : World) (g : Nat) (v : Value) (xs : List Int) (hl : 1 ≤ xs.length ∧ xs.length ≤ 256) (hc : Cur w0 w g) (hs : ∀ w2, Kept g w w2 → Sl intR w2 v xs) :
    Calls Tryz.prog 119 #[.pointer (some ⟨g, 0, none⟩), v] w fun e w2 => ∃ x, e = .returned (.int .i64 x) ∧ I64 x ∧ Cur w0 w2 g ∧ Kept g w w2 := by
  obtain ⟨A, cap, rfl, hm⟩ := (hs w (Kept.refl _ _)).form
  go_enter Tryz.func119, Tryz.ntmps119
  go_wp2_with fail
  refine (spec_l1Below w0 w g xs.length (by omega) hc).mono ?_
  rintro e w2 ⟨x, rfl, hx, hc2, hk⟩
  obtain ⟨j, rfl⟩ : ∃ j : Nat, x = j := ⟨x.toNat, by omega⟩
  have hj : j < xs.length := by omega
  obtain ⟨b, off, rfl, hI, hcell⟩ := (hs w2 hk).int hj
  go_wp2
  go_ret
  exact ⟨_, rfl, hI, hc2, hk⟩

set_option maxHeartbeats 400000 in
set_option maxRecDepth 20000 in
theorem spec_l1New (w : World) (v : Value) (bs : List Int) (h : Sl u8R w v bs) :
    Calls Tryz.prog 30 #[v] w fun e w2 => e = .returned (.pointer (some ⟨w.heap.size, 0, none⟩)) ∧ Cur w w2 w.heap.size ∧ Ext w w2 := by
  obtain ⟨A, cap, rfl, hm⟩ := h.form
  go_enter Tryz.func30, Tryz.ntmps30
  go_wp2
  go_loop [3, 4] (fun x i => ∃ (k : Nat) (u : Int), k ≤ bs.length ∧ i = .int .i64 k ∧ x = .int .i64 u ∧ I64 u) (fun _ i => bs.length - (intOf i).toNat)
  case atStart => exact ⟨0, _, Nat.zero_le _, rfl, rfl, by unfold I64; first | omega | (unfold wrap64; omega)⟩
  case round =>
    obtain ⟨k, u, hk, rfl, rfl, hu⟩ := hrel
    have hu' := hu.out
    by_cases hlt : k < bs.length
    · by_cases h4 : k < 4000
      · obtain ⟨b, off, rfl, hbd, hcb⟩ := h.u8 hlt
        go_wp2
        go_round
        case rel => exact ⟨k + 1, _, by omega, by go_num, rfl, by rw [i64_and30]; unfold I64; omega⟩
        case measure => simp [intOf]; omega
      · go_wp2
        go_ret
        exact ⟨rfl, ⟨A, cap, bs, 0, u, h, (Ext.refl _).alloc _, Nat.le_refl _, Blk.new w _ _, Nat.zero_le _, hu⟩, (Ext.refl _).alloc _⟩
    · go_wp2
      go_ret
      exact ⟨rfl, ⟨A, cap, bs, 0, u, h, (Ext.refl _).alloc _, Nat.le_refl _, Blk.new w _ _, Nat.zero_le _, hu⟩, (Ext.refl _).alloc _⟩

theorem lit_kept {w w2 : World} {g : Nat} {T : TypeId} {xs : List Int} {cs : Array Value} (hcs : cs.toList = xs.map (Value.int .i64)) (h : ∀ x ∈ xs, I64 x) (hl : xs.length ≤ maxLen) (hg : g < w.heap.size) (k : Kept g (w.alloc (.cells cs T)) w2) :
    OwnSl intO w2 (.slice (some ⟨w.heap.size, 0, none⟩) xs.length xs.length) xs [w.heap.size] := by
  have hb := Blk.new w T cs
  rw [hcs] at hb
  exact (OwnSl.of_blk hb hl (ints_cells _ _ h)).kept (by simp; omega) k

end Go.Proofs.YtidchfncfcckiaaGreat

namespace Go.Proofs.YtidchfncfcckiaaGreat
open Go.RowKit

set_option maxHeartbeats 400000 in
theorem laws_big (v : Value) (bs : List Int) (w : World) (h : Sl u8R w v bs) :
    Calls Tryz.prog 5 #[v] w fun e w2 => e = .returned (.bool (decide (1048576 < bs.length))) ∧ w = w2 := by
  obtain ⟨A, cap, rfl, hm⟩ := h.form
  go_enter Tryz.func5, Tryz.ntmps5
  go_wp2
  go_ret
  exact ⟨ret_bool (by simp; try omega), rfl⟩
end Go.Proofs.YtidchfncfcckiaaGreat

namespace Go.Proofs.YtidchfncfcckiaaGreat
open Go.RowKit

theorem clus_told {m : List (List Int)} {l : List Constraint} {L : List Int} {cost gap : Int} {ex told : Bool} (h : clusterP m l = (⟨L, cost, ex, gap⟩, told)) :
    (told = false → L = []) ∧ (told = true → checkP m l ⟨L, cost, ex, gap⟩ = true ∧ twoB L (searchP m l) ∧ canonL (meetL L (searchP m l)) = L ∧ (ex = true → bcostP m l = cost)) := by
  cases hok : wmB m && consistB m.length l with
  | false =>
    rw [clusterP_no hok] at h
    injection h with h1 h2
    injection h1 with h3 _ _ _
    exact ⟨fun _ => h3.symm, fun e => (by rw [← h2] at e; cases e)⟩
  | true =>
    have hb := bcost_yes hok
    rw [clusterP_yes hok] at h
    rw [Bool.and_eq_true] at hok
    have hm := wmB_iff.1 hok.1
    have hc := hok.2
    have ha : areConB m.length l = true := by have := hc; unfold consistB at this; rw [Bool.and_eq_true] at this; exact this.1
    injection h with h1 h2
    injection h1 with e1 e2 e3 e4
    subst e1; subst e2; subst e3; subst e4
    refine ⟨fun e => (by rw [← h2] at e; cases e), fun _ => ?_⟩
    obtain ⟨p1, p2⟩ := clLab_part l hm
    have hk := clLab_keeps hm hc
    obtain ⟨s1, s2, _⟩ := searchP_facts hok.1 ha
    have ht : twoB (clLab m l) (searchP m l) := ⟨p1, s1, by rw [p2, s2]⟩
    have hbest : clExact m l = true → bcostP m l = costP m (clLab m l) := fun he => by rw [hb, clus_best hm hc he]
    refine ⟨?_, ht, meet_fine ht fun x y hx hy e => clLab_part2 hm hc (by rw [← p2]; exact hx) (by rw [← p2]; exact hy) e, hbest⟩
    unfold checkP
    dsimp only
    rw [p1, hk, pcost_yes ⟨hok.1, p1, p2⟩, decide_eq_true (costP_nn m (clLab m l)), decide_eq_true rfl]
    cases he : clExact m l with
    | true =>
      have hg : clGap m l = 0 := by unfold clGap; rw [if_pos he]
      rw [if_pos rfl, hbest he, hg]
      simp
    | false =>
      have hg : clGap m l = gapP m (clLab m l) := by unfold clGap; rw [he]; rfl
      rw [if_neg (by decide), hg]
      simp
end Go.Proofs.YtidchfncfcckiaaGreat

namespace Go.Proofs.YtidchfncfcckiaaGreat
open Go.RowKit

set_option maxHeartbeats 2000000 in
set_option maxRecDepth 20000 in
theorem spec_CheckClustering (v u z : Value) (m : List (List Int)) (l : List Constraint) (c : Clust) (w : World) (h : Sl (slR intR) w v m) (k : Sl constraintR w u l) (r : Sl intR w z c.labels) :
    Calls Tryz.prog 15 #[v, u, .agg #[z, .int .i64 c.cost, .bool c.exact, .int .i64 c.gap]] w fun e w2 => e = .returned (.bool (checkP m l c)) ∧ Ext w w2 := by
  obtain ⟨L, cost, ex, gap⟩ := c
  dsimp only at r ⊢
  obtain ⟨A, cap, rfl, hm1⟩ := h.form
  obtain ⟨B, cap2, rfl, hm2⟩ := k.form
  obtain ⟨C, cap3, rfl, hm3⟩ := r.form
  obtain ⟨wb, hwb⟩ : ∃ W, W = w.alloc (.cells #[.slice C L.length cap3, .int .i64 cost, .bool ex, .int .i64 gap] 30) := ⟨_, rfl⟩
  have xb : Ext w wb := by rw [hwb]; exact (Ext.refl _).alloc _
  have b := Blk.new w 30 #[.slice C L.length cap3, .int .i64 cost, .bool ex, .int .i64 gap]
  rw [← hwb] at b
  have HW := hid hwb
  have HX := hid xb
  have HBX := hid (show ∀ W, Ext wb W → W.cell? ⟨w.heap.size, 0, none⟩ = some (.slice C L.length cap3) ∧ W.cell? ⟨w.heap.size, 3, none⟩ = some (.int .i64 gap) from fun W y => ⟨(b.ext y).cells.1 0, (b.ext y).cells.1 3⟩)
  have y0 : ∀ z : ExtOf wb, z.1.cell? ⟨w.heap.size, 0, none⟩ = some (.slice C L.length cap3) := fun z => (b.ext z.2).cells.1 0
  have y1 : ∀ z : ExtOf wb, z.1.cell? ⟨w.heap.size, 1, none⟩ = some (.int .i64 cost) := fun z => (b.ext z.2).cells.1 1
  have c2 : ∀ W, Ext wb W → W.cell? ⟨w.heap.size, 2, none⟩ = some (.bool ex) := fun W y => (b.ext y).cells.1 2
  have y3 : ∀ z : ExtOf wb, z.1.cell? ⟨w.heap.size, 3, none⟩ = some (.int .i64 gap) := fun z => (b.ext z.2).cells.1 3
  have HC2 := hid c2
  have HKC := hid (fun (z : ExtOf wb) => spec_KeepsConstraints _ _ L l z.1 (r.mono (xb.trans z.2)) (k.mono (xb.trans z.2)))
  have HPC := hid (fun (z : ExtOf wb) => spec_PartitionCost_any _ _ m L z.1 (h.mono (xb.trans z.2)) (r.mono (xb.trans z.2)))
  have HBC := hid (fun (z : ExtOf wb) => spec_BestCost _ _ m l z.1 (h.mono (xb.trans z.2)) (k.mono (xb.trans z.2)))
  have HGP := hid (fun (hm : WM m) (W : World) (y : Ext w W) => spec_GreedyPacking _ m W (h.mono y) hm)
  have HGA := hid (fun (hm : WM m) (hpp : partB L = true) (hpl : L.length = m.length) (hgp : PackB m (greedyL m)) (hgl : (greedyL m).length ≤ 56) (W : World) (y : Ext w W) (z q : Value) (p : Sl intR W z L) (r : Sl triangleR W q (greedyL m)) => spec_OptimalityGap _ z q m L (greedyL m) W (h.mono y) p r hm hpp hpl hgp (by omega))
  have HRM := hid (fun (W : World) (y : Ext w W) => r.mono y)
  have HV := hid (show checkP m l ⟨L, cost, ex, gap⟩ = ((partB L && keepsB L l) && decide (0 ≤ cost) && decide (pcostP m L = cost) && (if ex = true then decide (gap = 0) && decide (bcostP m l = cost) else decide (gap = gapP m L))) from rfl)
  have HPY := hid (fun (h0 : 0 ≤ cost) (he : pcostP m L = cost) => pcost_ok (m := m) (l := L) (by omega))
  obtain ⟨r0, hr0⟩ : ∃ r0, r0 = checkP m l ⟨L, cost, ex, gap⟩ := ⟨_, rfl⟩
  rw [← hr0] at HV ⊢
  obtain ⟨kp, hkp⟩ : ∃ q, q = (partB L && keepsB L l) := ⟨_, rfl⟩
  rw [← hkp] at HV HKC
  obtain ⟨pc, hpc⟩ : ∃ q, q = pcostP m L := ⟨_, rfl⟩
  rw [← hpc] at HV HPC HPY
  obtain ⟨bc, hbc⟩ : ∃ q, q = bcostP m l := ⟨_, rfl⟩
  rw [← hbc] at HV HBC
  have HGV := hid (show gapP m L = costP m L - sumT (greedyL m) from rfl)
  clear hr0 hkp hpc hbc hwb xb b h k r c2
  cases kp with
  | false =>
    have HR := hid (show r0 = false from by rw [HV.out]; rfl)
    go_enter Tryz.func15, Tryz.ntmps15
    go_wp2_with fail
    rw [← HW.out]
    refine wp_region_ext (by kernel_rfl) (by kernel_rfl) ?_
    repeat (go_big_quiet_step ((first | (go_at_call 47; exact quiet_ext (HKC.out _)))))
    refine wpQuiet_nil ?_
    rintro w5 ⟨⟨_, x5⟩, rfl⟩
    go_wp2
    go_ret
    exact ⟨ret_bool HR.out.symm, HX.out.trans x5⟩
  | true =>
  by_cases h0 : 0 ≤ cost
  · have hd0 : decide (cost < 0) = false := by rw [decide_eq_false_iff_not]; omega
    by_cases he : pc = cost
    · have hn1 : (cost != pc) = false := by simp [he]
      have hn2 : (pc != cost) = false := by simp [he]
      have HRR := hid (show r0 = (if ex = true then decide (gap = 0) && decide (bc = cost) else decide (gap = gapP m L)) from by rw [HV.out, decide_eq_true h0, decide_eq_true he]; simp)
      obtain ⟨w1, w2, w3⟩ := HPY.out h0 he
      have HP := hid (And.intro w1 (And.intro w2 w3))
      clear h0 he w1 w2 w3
      cases ex with
      | true =>
        rw [if_pos rfl] at HRR
        by_cases hg : gap = 0
        · have hg1 : (gap == 0) = true := by simp [hg]
          by_cases hbe : bc = cost
          · have hb1 : (cost == bc) = true := by simp [hbe]
            have hb2 : (bc == cost) = true := by simp [hbe]
            have HR := hid (show r0 = true from by rw [HRR.out, decide_eq_true hg, decide_eq_true hbe]; rfl)
            clear hg hbe
            go_enter Tryz.func15, Tryz.ntmps15
            go_wp2_with fail
            rw [← HW.out]
            refine wp_region_ext (by kernel_rfl) (by kernel_rfl) ?_
            repeat (go_big_quiet_step ((first | (go_at_call 47; exact quiet_ext (HKC.out _)) | (go_at_call 51; exact quiet_ext (HPC.out _)))))
            refine wpQuiet_nil ?_
            rintro w5 ⟨⟨_, x5⟩, rfl⟩
            have c2 := HC2.out _ x5
            have HBC := hid (fun (z : ExtOf w5) => HBC.out ⟨z.1, x5.trans z.2⟩)
            go_wp2_with fail
            have y1 := fun (z : ExtOf w5) => y1 ⟨z.1, x5.trans z.2⟩
            have y3 := fun (z : ExtOf w5) => y3 ⟨z.1, x5.trans z.2⟩
            refine wp_region_ext (by kernel_rfl) (by kernel_rfl) ?_
            repeat (go_big_quiet_step ((first | (go_at_call 67; exact quiet_ext (HBC.out _)))))
            refine wpQuiet_nil ?_
            rintro w6 ⟨⟨_, x6⟩, rfl⟩
            go_wp2
            go_ret
            exact ⟨ret_bool HR.out.symm, HX.out.trans (x5.trans x6)⟩
          · have hb1 : (cost == bc) = false := by rw [beq_eq_false_iff_ne]; exact fun e => hbe e.symm
            have hb2 : (bc == cost) = false := by rw [beq_eq_false_iff_ne]; exact hbe
            have HR := hid (show r0 = false from by rw [HRR.out, decide_eq_false hbe, Bool.and_false])
            clear hg hbe
            go_enter Tryz.func15, Tryz.ntmps15
            go_wp2_with fail
            rw [← HW.out]
            refine wp_region_ext (by kernel_rfl) (by kernel_rfl) ?_
            repeat (go_big_quiet_step ((first | (go_at_call 47; exact quiet_ext (HKC.out _)) | (go_at_call 51; exact quiet_ext (HPC.out _)))))
            refine wpQuiet_nil ?_
            rintro w5 ⟨⟨_, x5⟩, rfl⟩
            have c2 := HC2.out _ x5
            have HBC := hid (fun (z : ExtOf w5) => HBC.out ⟨z.1, x5.trans z.2⟩)
            go_wp2_with fail
            have y1 := fun (z : ExtOf w5) => y1 ⟨z.1, x5.trans z.2⟩
            have y3 := fun (z : ExtOf w5) => y3 ⟨z.1, x5.trans z.2⟩
            refine wp_region_ext (by kernel_rfl) (by kernel_rfl) ?_
            repeat (go_big_quiet_step ((first | (go_at_call 67; exact quiet_ext (HBC.out _)))))
            refine wpQuiet_nil ?_
            rintro w6 ⟨⟨_, x6⟩, rfl⟩
            go_wp2
            go_ret
            exact ⟨ret_bool HR.out.symm, HX.out.trans (x5.trans x6)⟩
        · have hg1 : (gap == 0) = false := by simp [hg]
          have HR := hid (show r0 = false from by rw [HRR.out, decide_eq_false hg, Bool.false_and])
          clear hg
          go_enter Tryz.func15, Tryz.ntmps15
          go_wp2_with fail
          rw [← HW.out]
          refine wp_region_ext (by kernel_rfl) (by kernel_rfl) ?_
          repeat (go_big_quiet_step ((first | (go_at_call 47; exact quiet_ext (HKC.out _)) | (go_at_call 51; exact quiet_ext (HPC.out _)))))
          refine wpQuiet_nil ?_
          rintro w5 ⟨⟨_, x5⟩, rfl⟩
          have c2 := HC2.out _ x5
          have HBC := hid (fun (z : ExtOf w5) => HBC.out ⟨z.1, x5.trans z.2⟩)
          go_wp2_with fail
          have y1 := fun (z : ExtOf w5) => y1 ⟨z.1, x5.trans z.2⟩
          have y3 := fun (z : ExtOf w5) => y3 ⟨z.1, x5.trans z.2⟩
          refine wp_region_ext (by kernel_rfl) (by kernel_rfl) ?_
          repeat (go_big_quiet_step ((first | (go_at_call 67; exact quiet_ext (HBC.out _)))))
          refine wpQuiet_nil ?_
          rintro w6 ⟨⟨_, x6⟩, rfl⟩
          go_wp2
          go_ret
          exact ⟨ret_bool HR.out.symm, HX.out.trans (x5.trans x6)⟩
      | false =>
        rw [if_neg (by decide)] at HRR
        obtain ⟨hgp, hgl⟩ := greedy_pack HP.out.1
        have HGP := hid (HGP.out HP.out.1)
        have HGA := hid (HGA.out HP.out.1 HP.out.2.1 HP.out.2.2 hgp hgl)
        rw [← HGV.out] at HGA
        obtain ⟨G, hG⟩ : ∃ G, G = gapP m L := ⟨_, rfl⟩
        rw [← hG] at HGA HRR
        have hR9 : (gap == G) = r0 := by
          rw [HRR.out, Bool.eq_iff_iff, beq_iff_eq, decide_eq_true_eq]
        clear hG hgp hgl
        go_enter Tryz.func15, Tryz.ntmps15
        go_wp2_with fail
        rw [← HW.out]
        refine wp_region_ext (by kernel_rfl) (by kernel_rfl) ?_
        repeat (go_big_quiet_step ((first | (go_at_call 47; exact quiet_ext (HKC.out _)) | (go_at_call 51; exact quiet_ext (HPC.out _)))))
        refine wpQuiet_nil ?_
        rintro w5 ⟨⟨_, x5⟩, rfl⟩
        have c2 := HC2.out _ x5
        go_wp2_with fail
        go_region_held3 (fun w' => w'.cell? ⟨w.heap.size, 0, none⟩ = some (.slice C L.length cap3) ∧ w'.cell? ⟨w.heap.size, 3, none⟩ = some (.int .i64 gap))
          (exact HBX.out _ (by repeat (first | with_reducible exact Ext.refl _ | with_reducible assumption | with_reducible refine Ext.drew ?_ | with_reducible refine Ext.alloc ?_ _ | with_reducible refine Ext.trans ?_ (by with_reducible assumption))))
          (first | (go_at_call 53; refine (HGP.out _ ?hx).mono ?_; (case hx => exact HX.out.trans (by repeat (first | with_reducible exact Ext.refl _ | with_reducible assumption | with_reducible refine Ext.drew ?_ | with_reducible refine Ext.alloc ?_ _ | with_reducible refine Ext.trans ?_ (by with_reducible assumption)))); rintro e wa ⟨va, Fa, rfl, oa, na, xa⟩; have ga := oa.sl; obtain ⟨Aa, ca, ea, _⟩ := oa.form; subst ea; clear oa na) | (go_at_call 52; refine (HGA.out _ ?hx _ _ ?hs ?ht).mono ?_; (case hx => exact HX.out.trans (by repeat (first | with_reducible exact Ext.refl _ | with_reducible assumption | with_reducible refine Ext.drew ?_ | with_reducible refine Ext.alloc ?_ _ | with_reducible refine Ext.trans ?_ (by with_reducible assumption)))); (case hs => exact HRM.out _ (HX.out.trans (by repeat (first | with_reducible exact Ext.refl _ | with_reducible assumption | with_reducible refine Ext.drew ?_ | with_reducible refine Ext.alloc ?_ _ | with_reducible refine Ext.trans ?_ (by with_reducible assumption))))); (case ht => exact ga.mono (by repeat (first | with_reducible exact Ext.refl _ | with_reducible assumption | with_reducible refine Ext.drew ?_ | with_reducible refine Ext.alloc ?_ _ | with_reducible refine Ext.trans ?_ (by with_reducible assumption)))); rintro e wc ⟨rfl, xc⟩))
        all_goals
          go_wp2
          go_ret
          exact ⟨ret_bool rfl, HX.out.trans (by repeat (first | with_reducible exact Ext.refl _ | with_reducible assumption | with_reducible refine Ext.drew ?_ | with_reducible refine Ext.alloc ?_ _ | with_reducible refine Ext.trans ?_ (by with_reducible assumption)))⟩
    · have hn1 : (cost != pc) = true := by rw [bne_iff_ne]; exact fun e => he e.symm
      have hn2 : (pc != cost) = true := by rw [bne_iff_ne]; exact he
      have HR := hid (show r0 = false from by rw [HV.out, decide_eq_false he]; simp)
      clear h0 he
      go_enter Tryz.func15, Tryz.ntmps15
      go_wp2_with fail
      rw [← HW.out]
      refine wp_region_ext (by kernel_rfl) (by kernel_rfl) ?_
      repeat (go_big_quiet_step ((first | (go_at_call 47; exact quiet_ext (HKC.out _)) | (go_at_call 51; exact quiet_ext (HPC.out _)))))
      refine wpQuiet_nil ?_
      rintro w5 ⟨⟨_, x5⟩, rfl⟩
      go_wp2
      go_ret
      exact ⟨ret_bool HR.out.symm, HX.out.trans x5⟩
  · have hd0 : decide (cost < 0) = true := by rw [decide_eq_true_eq]; omega
    have HR := hid (show r0 = false from by rw [HV.out, decide_eq_false h0]; simp)
    clear h0
    go_enter Tryz.func15, Tryz.ntmps15
    go_wp2_with fail
    rw [← HW.out]
    refine wp_region_ext (by kernel_rfl) (by kernel_rfl) ?_
    repeat (go_big_quiet_step ((first | (go_at_call 47; exact quiet_ext (HKC.out _)))))
    refine wpQuiet_nil ?_
    rintro w5 ⟨⟨_, x5⟩, rfl⟩
    go_wp2
    go_ret
    exact ⟨ret_bool HR.out.symm, HX.out.trans x5⟩
end Go.Proofs.YtidchfncfcckiaaGreat

namespace Go.Proofs.YtidchfncfcckiaaGreat
open Go.RowKit

theorem Kept.alloc {g : Nat} {w w2 : World} (h : Kept g w w2) (o : Obj) : Kept g w (w2.alloc o) := h.trans (Ext.kept ((Ext.refl _).alloc _))
theorem Kept.drew {g : Nat} {w w2 : World} (h : Kept g w w2) : Kept g w w2.drew := h.trans (Ext.kept (Ext.refl _).drew)
theorem Kept.setN {g : Nat} {w w2 : World} (h : Kept g w w2) {p : Addr} (hp : w.heap.size ≤ p.block) (u : Value) : Kept g w (w2.setCell p u) :=
  ⟨by rw [World.size_setCell]; exact h.1, fun b hb hne => (keep_setCell (fun e => by omega)).trans (h.2 b hb hne)⟩
theorem Cur.setN {w0 w : World} {g : Nat} (h : Cur w0 w g) {p : Addr} (hp : g < p.block) (u : Value) : Cur w0 (w.setCell p u) g :=
  h.keep (h.base.1.setCell (by have := h.base.2.1; omega) u) (keep_setCell (by omega))
theorem Blk.kept {w w2 : World} {b g : Nat} {e : TypeId} {cs : List Value} (h : Blk w b e cs) (hne : b ≠ g) (k : Kept g w w2) : Blk w2 b e cs := h.keep (k.2 b (block_lt h) hne)
theorem Cur.alloc {w0 w : World} {g : Nat} (h : Cur w0 w g) (o : Obj) : Cur w0 (w.alloc o) g := h.ext ((Ext.refl w).alloc o)
theorem Cur.drew {w0 w : World} {g : Nat} (h : Cur w0 w g) : Cur w0 w.drew g := h.ext (Ext.refl w).drew
set_option maxHeartbeats 400000 in
theorem spec_l1PickIn (w0 w : World) (g : Nat) (v : Value) (xs : List Int) (hl : 1 ≤ xs.length ∧ xs.length ≤ 256) (hc : Cur w0 w g) (hs : ∀ w2, Kept g w w2 → Sl intR w2 v xs) :
    Calls Tryz.prog 119 #[.pointer (some ⟨g, 0, none⟩), v] w fun e w2 => ∃ x, e = .returned (.int .i64 x) ∧ x ∈ xs ∧ Cur w0 w2 g ∧ Kept g w w2 := by
  obtain ⟨A, cap, rfl, hm⟩ := (hs w (Kept.refl _ _)).form
  go_enter Tryz.func119, Tryz.ntmps119
  go_wp2_with fail
  refine (spec_l1Below w0 w g xs.length (by omega) hc).mono ?_
  rintro e w2 ⟨x, rfl, hx, hc2, hk⟩
  obtain ⟨j, rfl⟩ : ∃ j : Nat, x = j := ⟨x.toNat, by omega⟩
  have hj : j < xs.length := by omega
  obtain ⟨b, off, rfl, hI, hcell⟩ := (hs w2 hk).int hj
  go_wp2
  go_ret
  exact ⟨_, rfl, List.getElem_mem hj, hc2, hk⟩
/-- a table that grows: a store into a row -/
theorem Bld.ints_store {w : World} {base : Nat} {e : TypeId} {v : Value} {rows : List (List Int)} {F : List Nat} (h : Bld (slO intO) w base e v rows F) {i s : Nat} (hi : i < rows.length) (hs : s < rows[i].length) :
    ∃ g cap b o2 cap2, v = .slice (some ⟨g, 0, none⟩) rows.length cap ∧ w.cell? ⟨g, i, none⟩ = some (.slice (some ⟨b, o2, none⟩) rows[i].length cap2) ∧ base ≤ b ∧ g ≠ b ∧
      w.cell? ⟨b, o2 + s, none⟩ = some (.int .i64 rows[i][s]) ∧ w.frozen? ⟨b, o2 + s, none⟩ = false ∧
      ∀ x, I64 x → Bld (slO intO) (w.setCell ⟨b, o2 + s, none⟩ (.int .i64 x)) base e v (rows.set i (rows[i].set s x)) F := by
  obtain ⟨cs, h1, h2, h3, h4, h5⟩ := h
  rcases h1.2 with ⟨_, hn⟩ | ⟨g, cap, cur, rfl, hb, hh, hnc, hcm, hcs, htake⟩
  · omega
  · obtain ⟨c0, c, c1, F0, F1, F2, rfl, rfl, l0, l1, k0, ⟨u, rfl, ho⟩, k2⟩ := h2.split i hi
    have hn1 : (slO intO).n = 1 := rfl
    have hN := List.nodup_append.1 h4
    have hN2 := List.nodup_append.1 hN.2.1
    have hgF : g ∉ F0 ++ (F1 ++ F2) := h3 g rfl
    obtain ⟨b, o2, cap2, rfl, hbF, hcell, hfr, hst⟩ := ho.int_store hN2.1 hs
    have hbm : b ∈ F0 ++ (F1 ++ F2) := List.mem_append_right _ (List.mem_append_left _ hbF)
    have hgb : g ≠ b := fun e9 => hgF (by rw [e9]; exact hbm)
    rw [hn1, Nat.mul_one] at l0
    have hcg : w.cell? ⟨g, i, none⟩ = some (.slice (some ⟨b, o2, none⟩) rows[i].length cap2) := by
      rw [cell_of_row w g i cur e (0, 0) hh]
      have hx : (cur.toList.take (rows.length * (slO intO).n))[i]? = some (.slice (some ⟨b, o2, none⟩) rows[i].length cap2) := by
        rw [htake, List.getElem?_append_right (by omega), l0, Nat.sub_self]; rfl
      rw [hn1, Nat.mul_one, List.getElem?_take, if_pos hi] at hx
      simpa using hx
    refine ⟨g, cap, b, o2, cap2, rfl, hcg, h5 b hbm, hgb, hcell, hfr, fun x hx => ?_⟩
    have hk : ∀ b9, b9 ≠ b → (w.setCell ⟨b, o2 + s, none⟩ (.int .i64 x)).heap[b9]? = w.heap[b9]? := fun b9 h9 => keep_setCell h9
    refine ⟨_, ⟨?_, .inr ⟨g, cap, cur, by rw [List.length_set], hb, (hk g hgb).trans hh, by rw [List.length_set]; exact hnc, hcm, hcs, by rw [List.length_set]; exact htake⟩⟩, OwnCells.join hi (k0.keep fun b9 h9 => hk b9 fun e9 => hN.2.2 b9 h9 b (List.mem_append_left _ hbF) e9) ⟨_, rfl, hst x hx⟩ (k2.keep fun b9 h9 => hk b9 fun e9 => hN2.2.2 b hbF b9 h9 e9.symm), h3, h4, h5⟩
    rw [List.length_set]; exact h1.1
/-- .. in any world that keeps the table -/
theorem Bld.ints_at {w : World} {base : Nat} {e : TypeId} {v : Value} {rows : List (List Int)} {F : List Nat} (h : Bld (slO intO) w base e v rows F) {i s : Nat} (hi : i < rows.length) (hs : s < rows[i].length) :
    ∃ g cap b o2 cap2, v = .slice (some ⟨g, 0, none⟩) rows.length cap ∧ base ≤ b ∧ g ≠ b ∧ ∀ w2 : World, (∀ b, base ≤ b → b < w.heap.size → w2.heap[b]? = w.heap[b]?) →
      w2.cell? ⟨g, i, none⟩ = some (.slice (some ⟨b, o2, none⟩) rows[i].length cap2) ∧ w2.cell? ⟨b, o2 + s, none⟩ = some (.int .i64 rows[i][s]) ∧ w2.frozen? ⟨b, o2 + s, none⟩ = false ∧
      ∀ x, I64 x → Bld (slO intO) (w2.setCell ⟨b, o2 + s, none⟩ (.int .i64 x)) base e v (rows.set i (rows[i].set s x)) F := by
  obtain ⟨g, cap, b, o2, cap2, e1, c1, hb, hgb, _, _, _⟩ := h.ints_store hi hs
  have hg := h.lt.2 g (by rw [e1]; rfl)
  refine ⟨g, cap, b, o2, cap2, e1, hb, hgb, fun w2 hk => ?_⟩
  obtain ⟨g', cap', b', o2', cap2', e1', c1', hb', hgb', c2', f2', st'⟩ := (h.keep hk).ints_store hi hs
  rw [e1] at e1'
  injection e1' with q1 q2 q3
  injection q1 with q1
  injection q1 with q1 _ _
  subst q1
  have hs9 : w2.cell? ⟨g, i, none⟩ = w.cell? ⟨g, i, none⟩ := cell_of_same (hk g hg.2 hg.1) i
  rw [hs9, c1] at c1'
  injection c1' with q
  injection q with q q4 q5
  injection q with q
  injection q with q6 q7 _
  subst q6; subst q7
  exact ⟨hs9.trans c1, c2', f2', st'⟩
set_option maxHeartbeats 2000000 in
set_option maxRecDepth 20000 in
theorem spec_l17Matrix (w0 w : World) (g : Nat) (most : Int) (hb : 1 ≤ most ∧ most ≤ 8) (hc : Cur w0 w g) :
    Calls Tryz.prog 79 #[.pointer (some ⟨g, 0, none⟩), .int .i64 most] w fun e w2 => ∃ v2 m F, e = .returned v2 ∧ Bld (slO intO) w2 w.heap.size 28 v2 m F ∧ Sq m.length m ∧ 1 ≤ m.length ∧ m.length ≤ 8 ∧ Cur w0 w2 g ∧ Kept g w w2 := by
  obtain ⟨hx0, hg0, hg⟩ := hc.base
  have h0w := hx0.size
  clear hx0
  go_enter Tryz.func79, Tryz.ntmps79
  go_wp2_with fail
  refine (spec_l1Below w0 _ g most (by omega) hc).mono ?_
  rintro e w2 ⟨x1, rfl, hx1, hc2, hk2⟩
  obtain ⟨n, hn⟩ : ∃ n : Nat, 1 + x1 = n := ⟨(1 + x1).toNat, by omega⟩
  have hn1 : 1 ≤ n ∧ n ≤ 8 := by omega
  obtain ⟨i1, hi1, hz3, hz4, hz5⟩ := info_parts infoInt
  have hmk1 := run_mk (P := Tryz.prog) 28 3 i1 _ [.int .i64 0] 8 Tryz.underlying28 hi1 hz3 rfl hz4 hz5 n (by omega) (by omega)
  rw [flat_rep] at hmk1
  have HZI := hid (fun (W : World) => zeros_i W n 3 (by unfold maxLen; omega))
  obtain ⟨Z, hZ⟩ : ∃ Z, Z = (List.replicate n (Value.int .i64 0)).toArray := ⟨_, rfl⟩
  rw [← hZ] at hmk1 HZI
  have HN := hid hn
  have hs2 := hk2.1
  clear hc hi1 hz3 hz4 hz5 hZ hn
  go_wp2_with fail
  rw [HN.out]
  clear hx1
  go_loopw [6, 7] (fun t i wr => ∃ (k : Nat) (F : List Nat), k ≤ n ∧ i = .int .i64 k ∧ Bld (slO intO) wr w.heap.size 28 t (List.replicate k (List.replicate n 0)) F ∧ Cur w0 wr g ∧ Kept g w wr) (fun _ i _ => n - (intOf i).toNat)
  case atStart => exact ⟨0, [], Nat.zero_le _, rfl, Bld.lit w2 hs2 _, hc2.alloc _, hk2.alloc _⟩
  case round =>
    clear hc2
    obtain ⟨k, F, hk, rfl, hB, hc, hkp⟩ := hrel
    have hsz := hkp.1
    by_cases hlt : k < n
    · have hrow := HZI.out wr
      have hBz := hB.ext ((Ext.refl wr).alloc (.cells Z 3))
      have hG := hB.fresh (G := [wr.heap.size]) ⟨by simp, by simp⟩ hsz
      have HS := hid (show List.replicate (k + 1) (List.replicate n (0 : Int)) = List.replicate k (List.replicate n 0) ++ [List.replicate n 0] from List.replicate_succ')
      have HLE := hid (show (List.replicate k (List.replicate n (0 : Int))).length + 1 ≤ 1099511627776 by rw [List.length_replicate]; omega)
      have hcz := hc.alloc (.cells Z 3)
      have hkz := hkp.alloc (.cells Z 3)
      obtain ⟨Y, hY⟩ : ∃ Y, Y = List.replicate n (0 : Int) := ⟨_, rfl⟩
      rw [← hY] at hrow hBz HS HLE
      obtain ⟨X, hX⟩ : ∃ X, X = List.replicate k Y := ⟨_, rfl⟩
      rw [← hX] at hBz HS HLE
      go_wp2_with (at_builtin; go_loud (refine wpList_app1g elemInts (by decide) rfl _ _ rfl hBz rfl _ 1 rfl (by simp) (one_slice _ _ _) (y := Y) ⟨_, rfl, hrow⟩ hG HLE.out (by decide) (by simp; omega) ?_); intro v9 w9 hB9 hE9 hs9 hk9)
      go_roundw
      case rel => exact ⟨k + 1, _, by omega, by go_num, by rw [hY] at HS; rw [HS.out, ← hY]; exact hB9, hcz.keep (hE9 w0 h0w hcz.base.1) (hk9 g (by omega)), ⟨by simp at hs9; omega, fun b hb hne => (hk9 b hb).trans (hkz.2 b hb hne)⟩⟩
      case measure => simp [intOf]; omega
    · have hke : n = k := by omega
      subst hke
      have hBs := hB.sl
      obtain ⟨A, cap, e1, _⟩ := hBs.form
      subst e1
      rw [List.length_replicate] at hB
      have hSq : Sq n (List.replicate n (List.replicate n 0)) := sqM_sq n
      obtain ⟨M0, hM0⟩ : ∃ M, M = List.replicate n (List.replicate n (0 : Int)) := ⟨_, rfl⟩
      rw [← hM0] at hB hSq
      have HST := hid (And.intro hB (And.intro hSq (And.intro hc hkp)))
      have hM0l : (List.replicate n (List.replicate n (0 : Int))).length = n := List.length_replicate
      rw [hM0l]
      clear hB hBs hSq hc hkp hmk1 hM0 hlt hM0l
      go_wp2_with fail
      go_loopw [8] (fun i wr => ∃ (a : Nat) (M : List (List Int)), a ≤ n ∧ i = .int .i64 a ∧ Bld (slO intO) wr w.heap.size 28 (.slice A n cap) M F ∧ Sq n M ∧ Cur w0 wr g ∧ Kept g w wr) (fun i _ => n - (intOf i).toNat)
      case atStart => exact ⟨0, M0, Nat.zero_le _, rfl, HST.out.1, HST.out.2.1, HST.out.2.2.1, HST.out.2.2.2⟩
      case round =>
        obtain ⟨a, M, ha, rfl, hO, hSq, hc, hkp⟩ := hrel
        by_cases hlt : a < n
        · have HR := hid (And.intro hO (And.intro hSq (And.intro hc hkp)))
          clear hO hSq hc hkp
          go_wp2_with fail
          go_loopw [9] (fun i wr => ∃ (b : Nat) (M : List (List Int)), a < b ∧ b ≤ n ∧ i = .int .i64 b ∧ Bld (slO intO) wr w.heap.size 28 (.slice A n cap) M F ∧ Sq n M ∧ Cur w0 wr g ∧ Kept g w wr) (fun i _ => n - (intOf i).toNat)
          case atStart => exact ⟨a + 1, M, by omega, by omega, by go_num, HR.out.1, HR.out.2.1, HR.out.2.2.1, HR.out.2.2.2⟩
          case round =>
            clear HR
            obtain ⟨b, M, hab, hbn, rfl, hO, hSq, hc, hkp⟩ := hrel
            by_cases hlt2 : b < n
            · have hsz := hkp.1
              have HD := hid (And.intro hO (And.intro hSq (And.intro hc hkp)))
              clear hO hSq hkp
              go_wp2_with fail
              refine (spec_l1PickInt w0 _ g _ [5, 3, 1, -1, -2, -4, -6, 2, -1000, 0] (by decide) (hc.ext ((Ext.refl _).alloc _)) (fun w4 k4 => (lit_kept rfl (by simp [I64]) (by decide) (by have := hc.base.2.2; omega) k4).sl)).mono ?_
              rintro e w4 ⟨x, rfl, hI, hc4, hk4⟩
              have hkk := (Ext.kept (g := g) ((Ext.refl wr).alloc (.cells #[.int .i64 5, .int .i64 3, .int .i64 1, .int .i64 (-1), .int .i64 (-2), .int .i64 (-4), .int .i64 (-6), .int .i64 2, .int .i64 (-1000), .int .i64 0] 3))).trans hk4
              obtain ⟨hO, hSq, _, hkp⟩ := HD.out
              have hO4 := hO.kept hg hkk
              have hk24 := hkp.trans hkk
              have hMl := hSq.1
              have hrow : ∀ j, j < n → ∀ h : j < M.length, M[j].length = n := fun j hj h => by have := hSq.2 j hj; rwa [getD_getElem h] at this
              have haM : a < M.length := by omega
              have hbM : b < M.length := by omega
              have hra := hrow a (by omega) haM
              have hrb := hrow b hlt2 hbM
              obtain ⟨G0, cp, b1, o1, cp1, eV, cell_a, hbF, hgb, cell1, fr1, st1⟩ := hO4.ints_store (i := a) (s := b) haM (by omega)
              have hO1 := st1 x hI
              have hbM1 : b < (M.set a (M[a].set b x)).length := by rw [List.length_set]; exact hbM
              have eb1 : (M.set a (M[a].set b x))[b] = M[b] := by rw [List.getElem_set_ne (by omega)]
              obtain ⟨g', cp', b2, o2, cp2, eV', cell_b, hbF2, hgb2, cell2, fr2, st2⟩ := hO1.ints_store (i := b) (s := a) hbM1 (by rw [eb1]; omega)
              injection eV with eV1 q1 q2
              clear q1 q2
              subst eV1
              injection eV' with eV1' q1 q2
              clear q1 q2
              injection eV1' with eV1'
              injection eV1' with e9 _ _
              subst e9
              have hO2 := st2 x hI
              rw [eb1] at cell_b
              rw [hra] at cell_a
              rw [hrb] at cell_b
              have hM2 : setE (setE M a b x) b a x = (M.set a (M[a].set b x)).set b ((M.set a (M[a].set b x))[b].set a x) := by
                unfold setE
                rw [getD_getElem (a := M) haM, getD_getElem (a := M.set a (M[a].set b x)) hbM1]
              rw [← hM2] at hO2
              have f1 := hbF
              have f2 := hbF2
              have HC6 := hid ((hc4.setN (p := ⟨b1, o1 + b, none⟩) (by show g < b1; omega) (.int .i64 x)).setN (p := ⟨b2, o2 + a, none⟩) (by show g < b2; omega) (.int .i64 x))
              have HK6 := hid ((hk24.setN (p := ⟨b1, o1 + b, none⟩) f1 (.int .i64 x)).setN (p := ⟨b2, o2 + a, none⟩) f2 (.int .i64 x))
              have HO6 := hid hO2
              have HSQ6 := hid ((hSq.set (k := b) (by omega : a < n) x).set (k := a) hlt2 x)
              have hu1 : ∃ u, w4.cell? ⟨b1, o1 + b, none⟩ = some u := ⟨_, cell1⟩
              have hu2 : ∃ u, (w4.setCell ⟨b1, o1 + b, none⟩ (.int .i64 x)).cell? ⟨b2, o2 + a, none⟩ = some u := ⟨_, cell2⟩
              clear cell1 cell2
              obtain ⟨u1, cell1⟩ := hu1
              obtain ⟨u2, cell2⟩ := hu2
              clear hO hSq hkp hO4 hk24 hMl hrow haM hbM hra hrb hO1 st1 st2 hbM1 eb1 hO2 hM2 hc hc4 hk4 hkk f1 f2 hI
              go_wp2_with fail
              go_roundw
              case rel => exact ⟨b + 1, _, by omega, by omega, by go_num, HO6.out, HSQ6.out, HC6.out, HK6.out⟩
              case measure => simp [intOf]; omega
            · have HD := hid (And.intro hO (And.intro hSq (And.intro hc hkp)))
              clear hO hSq hc hkp
              go_wp2_with fail
              go_roundw
              case rel => exact ⟨a + 1, M, by omega, by go_num, HD.out.1, HD.out.2.1, HD.out.2.2.1, HD.out.2.2.2⟩
              case measure => simp [intOf]; omega
        · have HD := hid (And.intro hO (And.intro hSq (And.intro hc hkp)))
          clear hO hSq hc hkp
          go_wp2_with fail
          go_ret
          obtain ⟨hO, hSq, hc, hkp⟩ := HD.out
          exact ⟨_, M, F, rfl, hO, by rw [hSq.1]; exact hSq, by rw [hSq.1]; exact hn1.1, by rw [hSq.1]; exact hn1.2, hc, hkp⟩
end Go.Proofs.YtidchfncfcckiaaGreat

namespace Go.Proofs.YtidchfncfcckiaaGreat
open Go.RowKit

theorem Bld.low {α : Type} {R : RepO α} {w : World} {base base2 : Nat} {e : TypeId} {v : Value} {xs : List α} {F : List Nat} (h : Bld R w base e v xs F) (hb : base2 ≤ base) : Bld R w base2 e v xs F := by
  obtain ⟨cs, h1, h2, h3, h4, h5⟩ := h
  refine ⟨cs, ⟨h1.1, ?_⟩, h2, h3, h4, fun b hb2 => Nat.le_trans hb (h5 b hb2)⟩
  rcases h1.2 with h | ⟨g', cap, cur, e1, e2, e3⟩
  · exact .inl h
  · exact .inr ⟨g', cap, cur, e1, Nat.le_trans hb e2, e3⟩
set_option maxHeartbeats 2000000 in
set_option maxRecDepth 20000 in
theorem spec_l18List (w0 w : World) (g : Nat) (n : Int) (hn : n ≤ 200) (h64 : I64 n) (hc : Cur w0 w g) :
    Calls Tryz.prog 80 #[.pointer (some ⟨g, 0, none⟩), .int .i64 n] w fun e w2 => ∃ v2 l, e = .returned v2 ∧ Bld constraintO w2 w.heap.size 79 v2 l [] ∧ l.length ≤ 4 ∧ Cur w0 w2 g ∧ Kept g w w2 := by
  obtain ⟨hx0, hg0, hg⟩ := hc.base
  have h0w := hx0.size
  have h64' := h64.out
  clear hx0
  go_enter Tryz.func80, Tryz.ntmps80
  go_wp2_with fail
  refine (spec_l1Below w0 _ g 5 (by decide) (hc.ext ((Ext.refl _).alloc _))).mono ?_
  rintro e w2 ⟨x1, rfl, hx1, hc2, hk2⟩
  obtain ⟨q0, rfl⟩ : ∃ n : Nat, x1 = n := ⟨x1.toNat, by omega⟩
  have hB2 := (Bld.lit (R := constraintO) w (Nat.le_refl _) 79).kept hg hk2
  have hkw := (Ext.kept (g := g) ((Ext.refl w).alloc (.cells #[] 79))).trans hk2
  clear hc hk2
  go_wp2_with fail
  go_loopw [5, 6] (fun t i wr => ∃ (q : Nat) (l : List Constraint), i = .int .i64 q ∧ l.length + q ≤ 4 ∧ Bld constraintO wr w.heap.size 79 t l [] ∧ Cur w0 wr g ∧ Kept g w wr) (fun _ i _ => (intOf i).toNat)
  case atStart => exact ⟨q0, [], rfl, by simp; omega, hB2, hc2, hkw⟩
  case round =>
    clear hB2 hc2 hkw hx1
    obtain ⟨q, l, rfl, hql, hB, hc, hk⟩ := hrel
    have hsz := hk.1
    by_cases hq : 0 < q
    · by_cases h1 : 1 < n
      · go_wp2_with fail
        refine (spec_l1Below w0 _ g (n - 1) (by omega) hc).mono ?_
        rintro e w3 ⟨a, rfl, ha, hc3, hk3⟩
        go_wp2_with fail
        refine (spec_l1Below w0 _ g (n - 1 - a) (by omega) hc3).mono ?_
        rintro e w4 ⟨b, rfl, hb, hc4, hk4⟩
        go_wp2_with fail
        refine (spec_l1Once w0 _ g 2 (by decide) hc4).mono ?_
        rintro e w5 ⟨s, rfl, hc5, hk5⟩
        have hkk := (hk3.trans hk4).trans hk5
        have hB5 := hB.kept hg hkk
        have hs5 := hkk.1
        have HI := hid (show I64 a ∧ I64 (a + 1 + b) from by unfold I64; omega)
        go_wp2_with (at_builtin; go_loud (refine wpList_app1g (R := constraintO) elemCon3 (by decide) rfl _ _ rfl hB5 rfl _ 1 rfl (by simp) (one_con3 _ _ _) (y := ⟨a, a + 1 + b, s⟩) ⟨⟨rfl, ⟨HI.out.1, HI.out.2⟩⟩, rfl⟩ fresh_nil (by omega) (by decide) (by omega) ?_); intro v9 w9 hB9 hE9 hs9 hk9)
        go_roundw
        case rel => exact ⟨q - 1, l ++ [⟨a, a + 1 + b, s⟩], (by (have e9 : ((q - 1 : Nat) : Int) = (q : Int) - 1 := by omega); rw [e9]), by simp; omega, hB9, hc5.keep (hE9 w0 (by omega) hc5.base.1) (hk9 g (by omega)), ⟨by omega, fun b hb hne => (hk9 b hb).trans ((hk.trans hkk).2 b hb hne)⟩⟩
        case measure => simp [intOf]; omega
      · have h1' : n ≤ 1 := by omega
        go_wp2_with fail
        go_ret
        exact ⟨_, rfl, l, hB, by omega, hc, hk⟩
    · have hq0 : q = 0 := by omega
      subst hq0
      go_wp2_with fail
      go_ret
      exact ⟨_, l, rfl, hB, by omega, hc, hk⟩
set_option maxHeartbeats 2000000 in
set_option maxRecDepth 20000 in
theorem spec_l18Any (w0 w : World) (g : Nat) (hc : Cur w0 w g) :
    Calls Tryz.prog 121 #[.pointer (some ⟨g, 0, none⟩)] w fun e w2 => ∃ (n : Int) (v2 : Value) (l : List Constraint), e = .returned (.tuple #[.int .i64 n, v2]) ∧ Bld constraintO w2 w.heap.size 79 v2 l [] ∧ l.length ≤ 5 ∧ Cur w0 w2 g ∧ Kept g w w2 := by
  obtain ⟨hx0, hg0, hg⟩ := hc.base
  have h0w := hx0.size
  clear hx0
  go_enter Tryz.func121, Tryz.ntmps121
  go_wp2_with fail
  refine (spec_l1PickIn w0 _ g _ [3, 4, 5, 6, 8, 2] (by decide) (hc.ext ((Ext.refl _).alloc _)) (fun w4 k4 => (lit_kept rfl (by simp [I64]) (by decide) hg k4).sl)).mono ?_
  rintro e w2 ⟨n, rfl, hn, hc2, hk2⟩
  have hn8 : 2 ≤ n ∧ n ≤ 8 := by simp at hn; omega
  have hk2 := (Ext.kept (g := g) ((Ext.refl w).alloc (.cells #[.int .i64 3, .int .i64 4, .int .i64 5, .int .i64 6, .int .i64 8, .int .i64 2] 3))).trans hk2
  clear hn
  go_wp2_with fail
  refine (spec_l18List w0 _ g n (by omega) (by unfold I64; omega) hc2).mono ?_
  rintro e w3 ⟨v3, l, rfl, hB3, hl, hc3, hk3⟩
  have hB3 := hB3.low hk2.1
  have hk3 := hk2.trans hk3
  have hsl3 := hB3.sl
  obtain ⟨A3, c3, e3, _⟩ := hsl3.form
  subst e3
  clear hc hc2 hk2 hsl3
  go_wp2_with fail
  refine (spec_l1Below w0 _ g 16 (by decide) hc3).mono ?_
  rintro e w4 ⟨x, rfl, hx, hc4, hk4⟩
  have hB4 := hB3.kept hg hk4
  have hk4 := hk3.trans hk4
  have hs4 := hk4.1
  clear hB3 hc3 hk3
  by_cases h0 : x = 0
  · subst h0
    go_wp2_with fail
    refine (spec_l1PickIn w0 _ g _ [0, 9, 1] (by decide) (hc4.ext ((Ext.refl _).alloc _)) (fun w4 k4 => (lit_kept rfl (by simp [I64]) (by decide) (by omega) k4).sl)).mono ?_
    rintro e w5 ⟨m, rfl, _, hc5, hk5⟩
    have hk5 := (Ext.kept (g := g) ((Ext.refl w4).alloc (.cells #[.int .i64 0, .int .i64 9, .int .i64 1] 3))).trans hk5
    go_wp2_with fail
    refine bodyPost_ret (v := .tuple #[.int .i64 m, .slice A3 l.length c3]) (by simp [results, Tryz.results121, go_sem]) rfl ?_
    exact ⟨m, _, l, rfl, hB4.kept hg hk5, by omega, hc5, hk4.trans hk5⟩
  · have e0 : (x == 0) = false := by simp [h0]
    by_cases h1 : x = 1
    · subst h1
      go_wp2_with fail
      refine (spec_l1Below w0 _ g 4 (by decide) hc4).mono ?_
      rintro e w5 ⟨a, rfl, ha, hc5, hk5⟩
      go_wp2_with fail
      refine (spec_l1Below w0 _ g 4 (by decide) hc5).mono ?_
      rintro e w6 ⟨b, rfl, hb, hc6, hk6⟩
      have hkk := hk5.trans hk6
      have hB6 := hB4.kept hg hkk
      have hs6 := hkk.1
      have HI := hid (show I64 a ∧ I64 b from by unfold I64; omega)
      go_wp2_with (at_builtin; go_loud (refine wpList_app1g (R := constraintO) elemCon3 (by decide) rfl _ _ rfl hB6 rfl _ 1 rfl (by simp) (one_con3 _ _ _) (y := ⟨a, b, false⟩) ⟨⟨rfl, ⟨HI.out.1, HI.out.2⟩⟩, rfl⟩ fresh_nil (by omega) (by decide) (by omega) ?_); intro v9 w9 hB9 hE9 hs9 hk9)
      refine bodyPost_ret (v := .tuple #[.int .i64 n, v9]) (by simp [results, Tryz.results121, go_sem]) rfl ?_
      exact ⟨n, _, l ++ [⟨a, b, false⟩], rfl, hB9, by simp; omega, hc6.keep (hE9 w0 (by omega) hc6.base.1) (hk9 g (by omega)), ⟨by omega, fun b hb hne => (hk9 b hb).trans ((hk4.trans hkk).2 b hb hne)⟩⟩
    · have e1 : (x == 1) = false := by simp [h1]
      go_wp2_with fail
      refine bodyPost_ret (v := .tuple #[.int .i64 n, .slice A3 l.length c3]) (by simp [results, Tryz.results121, go_sem]) rfl ?_
      exact ⟨n, _, l, rfl, hB4, by omega, hc4, hk4⟩
set_option maxHeartbeats 2000000 in
set_option maxRecDepth 20000 in
theorem spec_l19Labels (w0 w : World) (g n : Nat) (hn : n ≤ 16) (hc : Cur w0 w g) :
    Calls Tryz.prog 64 #[.pointer (some ⟨g, 0, none⟩), .int .i64 n] w fun e w2 => ∃ v2 l, e = .returned v2 ∧ Bld intO w2 w.heap.size 3 v2 l [] ∧ l.length ≤ n ∧ Cur w0 w2 g ∧ Kept g w w2 := by
  obtain ⟨hx0, hg0, hg⟩ := hc.base
  have h0w := hx0.size
  clear hx0
  go_enter Tryz.func64, Tryz.ntmps64
  go_wp2_with fail
  go_loopw [5, 6, 7] (fun t p i wr => ∃ (k : Nat) (tp : Int) (l : List Int), k ≤ n ∧ i = .int .i64 k ∧ p = .int .i64 tp ∧ -1 ≤ tp ∧ tp ≤ 3 ∧ l.length = k ∧ Bld intO wr w.heap.size 3 t l [] ∧ Cur w0 wr g ∧ Kept g w wr) (fun _ _ i _ => n - (intOf i).toNat)
  case atStart => exact ⟨0, -1, [], Nat.zero_le _, rfl, rfl, by decide, by decide, rfl, Bld.lit w (Nat.le_refl _) _, hc.alloc _, (Kept.refl g w).alloc _⟩
  case round =>
    clear hc
    obtain ⟨k, tp, l, hk, rfl, rfl, ht1, ht2, hl, hB, hc, hkp⟩ := hrel
    have HL := hid hl
    have hsz := hkp.1
    clear hl
    by_cases hlt : k < n
    · by_cases h4 : 4 < tp + 2
      · go_wp2_with fail
        refine (spec_l1Below w0 _ g (4) (by omega) hc).mono ?_
        rintro e w3 ⟨x, rfl, hx, hc3, hk3⟩
        have hB3 := hB.kept hg hk3
        have hs3 := hk3.1
        have HI := hid (show I64 x from by unfold I64; omega)
        have HLE := hid (show l.length + 1 ≤ 1099511627776 by have := HL.out; omega)
        by_cases h5 : tp < x
        · exact absurd h5 (by omega)
        · go_wp2_with (at_builtin; go_loud (refine wpList_app1g (R := intO) elemInt (by decide) rfl _ _ rfl hB3 rfl _ 1 rfl (by simp) (one_int _) (y := x) (own_int _ _ HI.out) fresh_nil HLE.out (by decide) (by omega) ?_); intro v9 w9 hB9 hE9 hs9 hk9)
          go_roundw
          case rel => exact ⟨k + 1, tp, l ++ [x], by omega, by go_num, rfl, by omega, by omega, by rw [List.length_append, HL.out]; rfl, hB9, hc3.keep (hE9 w0 (by omega) hc3.base.1) (hk9 g (by omega)), ⟨by omega, fun b hb hne => (hk9 b hb).trans ((hkp.trans hk3).2 b hb hne)⟩⟩
          case measure => simp [intOf]; omega
      · go_wp2_with fail
        refine (spec_l1Below w0 _ g (tp + 2) (by omega) hc).mono ?_
        rintro e w3 ⟨x, rfl, hx, hc3, hk3⟩
        have hB3 := hB.kept hg hk3
        have hs3 := hk3.1
        have HI := hid (show I64 x from by unfold I64; omega)
        have HLE := hid (show l.length + 1 ≤ 1099511627776 by have := HL.out; omega)
        by_cases h5 : tp < x
        · go_wp2_with (at_builtin; go_loud (refine wpList_app1g (R := intO) elemInt (by decide) rfl _ _ rfl hB3 rfl _ 1 rfl (by simp) (one_int _) (y := x) (own_int _ _ HI.out) fresh_nil HLE.out (by decide) (by omega) ?_); intro v9 w9 hB9 hE9 hs9 hk9)
          go_roundw
          case rel => exact ⟨k + 1, x, l ++ [x], by omega, by go_num, rfl, by omega, by omega, by rw [List.length_append, HL.out]; rfl, hB9, hc3.keep (hE9 w0 (by omega) hc3.base.1) (hk9 g (by omega)), ⟨by omega, fun b hb hne => (hk9 b hb).trans ((hkp.trans hk3).2 b hb hne)⟩⟩
          case measure => simp [intOf]; omega
        · go_wp2_with (at_builtin; go_loud (refine wpList_app1g (R := intO) elemInt (by decide) rfl _ _ rfl hB3 rfl _ 1 rfl (by simp) (one_int _) (y := x) (own_int _ _ HI.out) fresh_nil HLE.out (by decide) (by omega) ?_); intro v9 w9 hB9 hE9 hs9 hk9)
          go_roundw
          case rel => exact ⟨k + 1, tp, l ++ [x], by omega, by go_num, rfl, by omega, by omega, by rw [List.length_append, HL.out]; rfl, hB9, hc3.keep (hE9 w0 (by omega) hc3.base.1) (hk9 g (by omega)), ⟨by omega, fun b hb hne => (hk9 b hb).trans ((hkp.trans hk3).2 b hb hne)⟩⟩
          case measure => simp [intOf]; omega
    · go_wp2_with fail
      go_ret
      exact ⟨_, l, rfl, hB, by have := HL.out; omega, hc, hkp⟩
end Go.Proofs.YtidchfncfcckiaaGreat

namespace Go.Proofs.YtidchfncfcckiaaGreat
open Go.RowKit

/-- a matrix of its own, at most nine rows -/
def MatAny (w0 w w2 : World) (g : Nat) (v : Value) : Prop := ∃ (m : List (List Int)) (F : List Nat), OwnSl (slO intO) w2 v m F ∧ (∀ b ∈ F, w.heap.size ≤ b) ∧ m.length ≤ 9 ∧ Cur w0 w2 g ∧ Kept g w w2
theorem MatAny.of_bld {w0 w w2 : World} {g : Nat} {v : Value} {m : List (List Int)} {F : List Nat} {e : TypeId} (h : Bld (slO intO) w2 w.heap.size e v m F) (hm : m.length ≤ 9) (hc : Cur w0 w2 g) (hk : Kept g w w2) : MatAny w0 w w2 g v := by
  obtain ⟨F', d1, _, d3⟩ := h.done
  exact ⟨m, F', d1, d3, hm, hc, hk⟩
set_option maxHeartbeats 2000000 in
set_option maxRecDepth 20000 in
theorem spec_l17Any (w0 w : World) (g : Nat) (hc : Cur w0 w g) :
    Calls Tryz.prog 120 #[.pointer (some ⟨g, 0, none⟩)] w fun e w2 => ∃ v2, e = .returned v2 ∧ MatAny w0 w w2 g v2 := by
  obtain ⟨hx0, hg0, hg⟩ := hc.base
  have h0w := hx0.size
  clear hx0
  go_enter Tryz.func120, Tryz.ntmps120
  go_wp2_with fail
  refine (spec_l1PickIn w0 _ g _ [4, 5, 6] (by decide) (hc.ext ((Ext.refl _).alloc _)) (fun w4 k4 => (lit_kept rfl (by simp [I64]) (by decide) hg k4).sl)).mono ?_
  rintro e w2 ⟨n, rfl, hn, hc2, hk2⟩
  have hn8 : 4 ≤ n ∧ n ≤ 6 := by simp at hn; omega
  have hk2 := (Ext.kept (g := g) ((Ext.refl w).alloc (.cells #[.int .i64 4, .int .i64 5, .int .i64 6] 3))).trans hk2
  clear hn hc
  go_wp2_with fail
  refine (spec_l17Matrix w0 _ g n (by omega) hc2).mono ?_
  rintro e w3 ⟨v3, m, F, rfl, hB3, hSq, hm1, hm8, hc3, hk3⟩
  have hB3 := hB3.low hk2.1
  have hk3 := hk2.trans hk3
  have hsl := hB3.sl
  obtain ⟨A, cap, e3, _⟩ := hsl.form
  subst e3
  clear hc2 hk2 hn8 hsl
  go_wp2_with fail
  refine (spec_l1Below w0 _ g 16 (by decide) hc3).mono ?_
  rintro e w4 ⟨x, rfl, hx, hc4, hk4⟩
  have hB4 := hB3.kept hg hk4
  have hk4 := hk3.trans hk4
  have hs4 := hk4.1
  have hrow : ∀ j, j < m.length → ∀ h : j < m.length, m[j].length = m.length := fun j hj h => by have := hSq.2 j hj; rwa [getD_getElem h] at this
  clear hB3 hc3 hk3 hSq
  by_cases h0 : x = 0
  · subst h0
    have h0m : 0 < m.length := by omega
    have hr0 := hrow 0 h0m h0m
    obtain ⟨G0, cp, b1, o1, cp1, eV, hb1, hgb, hat⟩ := hB4.ints_at (i := 0) (s := 0) h0m (by omega)
    obtain ⟨cell_a, cell1, fr1, st1⟩ := hat w4 fun _ _ _ => rfl
    injection eV with eV1 q1 q2
    clear q1 q2
    subst eV1
    have HB5 := hid (st1 1 (by unfold I64; omega))
    have HC5 := hid (hc4.setN (p := ⟨b1, o1 + 0, none⟩) (by show g < b1; omega) (.int .i64 1))
    have HK5 := hid (hk4.setN (p := ⟨b1, o1 + 0, none⟩) hb1 (.int .i64 1))
    rw [hr0] at cell_a
    have hu1 : ∃ u, w4.cell? ⟨b1, o1 + 0, none⟩ = some u := ⟨_, cell1⟩
    clear cell1 st1 hat
    obtain ⟨u1, cell1⟩ := hu1
    have hcap0 : (0 : Int) < m.length := by omega
    rw [Nat.add_zero] at cell1 fr1 HB5 HC5 HK5
    clear hB4 hc4 hrow hr0
    go_wp2_with fail
    go_ret
    exact ⟨_, rfl, MatAny.of_bld HB5.out (by rw [List.length_set]; omega) HC5.out HK5.out⟩
  · have e0 : (x == 0) = false := by simp [h0]
    by_cases h1 : x = 1
    · subst h1
      clear hrow
      go_wp2_with (at_builtin; go_loud (refine wpList_app1g elemInts (by decide) rfl _ _ rfl (hB4.ext ((Ext.refl _).alloc _)) rfl _ 1 rfl (by simp) (one_slice _ _ _) (y := []) ⟨_, rfl, .inl ⟨rfl, rfl, _, _, rfl, Nat.zero_le _⟩⟩ fresh_nil (by omega) (by decide) (by simp; omega) ?_); intro v9 w9 hB9 hE9 hs9 hk9)
      go_ret
      have hc5 := hc4.alloc (.cells #[] 3)
      have hk5 := hk4.alloc (.cells #[] 3)
      exact ⟨_, rfl, MatAny.of_bld hB9 (by simp; omega) (hc5.keep (hE9 w0 h0w hc5.base.1) (hk9 g hg)) ⟨by simp at hs9; omega, fun b hb hne => (hk9 b hb).trans (hk5.2 b hb hne)⟩⟩
    · have e1 : (x == 1) = false := by simp [h1]
      by_cases h2 : x = 2
      · subst h2
        by_cases hm2 : 1 < m.length
        · have hm2' : (1 : Int) < m.length := by omega
          have hm0n : 0 < m.length := by omega
          have hr0 := hrow 0 (by omega) (by omega)
          obtain ⟨G0, cp, b1, o1, cp1, eV, hb1, hgb, hat⟩ := hB4.ints_at (i := 0) (s := 1) (by omega) (by omega)
          injection eV with eV1 q1 q2
          clear q1 q2
          subst eV1
          have hat := fun (w2 : World) (hk : ∀ b, w.heap.size ≤ b → b < w4.heap.size → w2.heap[b]? = w4.heap[b]?) => (show w2.cell? ⟨G0, 0, none⟩ = some (.slice (some ⟨b1, o1, none⟩) m.length cp1) ∧ (∃ u, w2.cell? ⟨b1, o1 + 1, none⟩ = some u) ∧ w2.frozen? ⟨b1, o1 + 1, none⟩ = false ∧ ∀ x, I64 x → Bld (slO intO) (w2.setCell ⟨b1, o1 + 1, none⟩ (.int .i64 x)) w.heap.size 28 (.slice (some ⟨G0, 0, none⟩) m.length cap) (m.set 0 (m[0].set 1 x)) F from by
            obtain ⟨c1, c2, c3, c4⟩ := hat w2 hk
            rw [hr0] at c1
            exact ⟨c1, ⟨_, c2⟩, c3, c4⟩)
          have HAT := hid hat
          have hca := (hat w4 fun _ _ _ => rfl).1
          have HQ := hid hca
          clear hca
          go_wp2_with fail
          refine wp_region_J 7 (fun w' => w'.cell? ⟨G0, 0, none⟩ = some (.slice (some ⟨b1, o1, none⟩) m.length cp1)) (by kernel_rfl) ?_
          refine wpAnyJ_take (i := 0) (v := ?v0z) (by simp only [List.getElem?_toArray, List.getElem?_cons_succ, List.getElem?_cons_zero, Option.some.injEq]; exact rfl) (by kernel_rfl) (by kernel_rfl) (by kernel_rfl) (by kernel_rfl) (by exact fun _ _ _ h => h) (Or.inl ⟨by rfl, fun w9 hS9 => ?hy0z⟩) (by exact HQ.out) ?rest0z
          case hy0z => (try dsimp only at hS9); go_simp <;> with_reducible rfl
          try simp only [Act.put, List.setIfInBounds_toArray, List.set_cons_zero, List.set_cons_succ]
          refine wpAnyJ_take (i := 1) (v := ?v1z) (by simp only [List.getElem?_toArray, List.getElem?_cons_succ, List.getElem?_cons_zero, Option.some.injEq]; exact rfl) (by kernel_rfl) (by kernel_rfl) (by kernel_rfl) (by kernel_rfl) (by exact fun _ _ _ h => h) (Or.inl ⟨by rfl, fun w9 hS9 => ?hy1z⟩) (by exact HQ.out) ?rest1z
          case hy1z => (try dsimp only at hS9); go_simp <;> with_reducible rfl
          try simp only [Act.put, List.setIfInBounds_toArray, List.set_cons_zero, List.set_cons_succ]
          refine wpAnyJ_take (i := 2) (v := ?v2z) (by simp only [List.getElem?_toArray, List.getElem?_cons_succ, List.getElem?_cons_zero, Option.some.injEq]; exact rfl) (by kernel_rfl) (by kernel_rfl) (by kernel_rfl) (by kernel_rfl) (by exact fun _ _ _ h => h) (Or.inl ⟨by rfl, fun w9 hS9 => ?hy2z⟩) (by exact HQ.out) ?rest2z
          case hy2z => (try dsimp only at hS9); go_simp <;> with_reducible rfl
          try simp only [Act.put, List.setIfInBounds_toArray, List.set_cons_zero, List.set_cons_succ]
          refine wpAnyJ_take (i := 3) (v := ?v3z) (by simp only [List.getElem?_toArray, List.getElem?_cons_succ, List.getElem?_cons_zero, Option.some.injEq]; exact rfl) (by kernel_rfl) (by kernel_rfl) (by kernel_rfl) (by kernel_rfl) (by exact fun _ _ _ h => h) (Or.inl ⟨by rfl, fun w9 hS9 => ?hy3z⟩) (by exact HQ.out) ?rest3z
          case hy3z => (try dsimp only at hS9); go_simp <;> with_reducible rfl
          try simp only [Act.put, List.setIfInBounds_toArray, List.set_cons_zero, List.set_cons_succ]
          refine wpAnyJ_one (i := 4) (by simp only [List.getElem?_toArray, List.getElem?_cons_succ, List.getElem?_cons_zero, Option.some.injEq]; exact rfl) (by kernel_rfl) (fun K hK => ?_)
          go_simp
          have xl : Ext w4 (w4.drew.alloc (.cells #[.int .i64 1001, .int .i64 7, .int .i64 (-1001)] 3)) := (Ext.refl _).drew.alloc _
          refine hK _ _ (xl.cell HQ.out) ?_
          try simp only [Act.put, List.setIfInBounds_toArray, List.set_cons_zero, List.set_cons_succ]
          clear hK K
          refine wpAnyJ_one (i := 5) (by simp only [List.getElem?_toArray, List.getElem?_cons_succ, List.getElem?_cons_zero, Option.some.injEq]; exact rfl) (by kernel_rfl) (fun K hK => ?_)
          go_simp
          refine (spec_l1PickInt w0 _ g _ [1001, 7, -1001] (by decide) (hc4.ext xl) (fun w4 k4 => (lit_kept rfl (by simp [I64]) (by decide) (by have h9 := hc4.base.2.2; exact h9) k4).sl)).mono ?_
          rintro e w5 ⟨y, rfl, hI, hc5, hk5⟩
          have hk45 := (Ext.kept (g := g) xl).trans hk5
          obtain ⟨cell_a, cell1, fr1, st1⟩ := HAT.out w5 fun b hb hl => hk45.2 b hl (by omega)
          have HB5 := hid (st1 y hI)
          have HC5 := hid (hc5.setN (p := ⟨b1, o1 + 1, none⟩) (by show g < b1; omega) (.int .i64 y))
          have HK5 := hid ((hk4.trans hk45).setN (p := ⟨b1, o1 + 1, none⟩) hb1 (.int .i64 y))
          have HQ5 := hid cell_a
          clear st1 cell_a
          obtain ⟨u1, cell1⟩ := cell1
          refine hK _ _ HQ5.out ?_
          try simp only [Act.put, List.setIfInBounds_toArray, List.set_cons_zero, List.set_cons_succ]
          clear hK K
          refine wpAnyJ_one (i := 6) (by simp only [List.getElem?_toArray, List.getElem?_cons_succ, List.getElem?_cons_zero, Option.some.injEq]; exact rfl) (by kernel_rfl) (fun K hK => ?_)
          go_simp
          refine hK _ _ HQ5.out ?_
          try simp only [Act.put, List.setIfInBounds_toArray, List.set_cons_zero, List.set_cons_succ]
          clear hK K
          refine wpAnyJ_last (by simp only [List.getElem?_toArray, List.getElem?_cons_succ, List.getElem?_cons_zero, Option.some.injEq]; exact rfl) (by kernel_rfl) (by kernel_rfl) (fun K hK => ?_)
          go_simp
          refine hK _ _ ?_
          clear hK K
          go_wp2
          go_ret
          exact ⟨_, rfl, MatAny.of_bld HB5.out (by rw [List.length_set]; omega) HC5.out HK5.out⟩
        · have hm2' : ¬ (1 : Int) < m.length := by omega
          have hm2'' : (m.length : Int) ≤ 1 := by omega
          clear hrow
          go_wp2_with fail
          go_ret
          exact ⟨_, rfl, MatAny.of_bld hB4 (by omega) hc4 hk4⟩
      · have e2 : (x == 2) = false := by simp [h2]
        clear hrow
        go_wp2_with fail
        go_ret
        exact ⟨_, rfl, MatAny.of_bld hB4 (by omega) hc4 hk4⟩
/-- a matrix and constraints of their own -/
def PairAny (w0 w w2 : World) (g : Nat) (v u : Value) : Prop := ∃ (m : List (List Int)) (F : List Nat) (l : List Constraint) (G : List Nat), OwnSl (slO intO) w2 v m F ∧ (∀ b ∈ F, w.heap.size ≤ b) ∧ m.length ≤ 9 ∧ OwnSl constraintO w2 u l G ∧ (∀ b ∈ G, w.heap.size ≤ b) ∧ l.length ≤ 5 ∧ Cur w0 w2 g ∧ Kept g w w2
set_option maxHeartbeats 400000 in
set_option maxRecDepth 20000 in
theorem spec_l20Pair (w0 w : World) (g : Nat) (hc : Cur w0 w g) :
    Calls Tryz.prog 81 #[.pointer (some ⟨g, 0, none⟩)] w fun e w2 => ∃ v u, e = .returned (.tuple #[v, u]) ∧ PairAny w0 w w2 g v u := by
  obtain ⟨hx0, hg0, hg⟩ := hc.base
  clear hx0
  go_enter Tryz.func81, Tryz.ntmps81
  go_wp2_with fail
  refine (spec_l17Any w0 _ g hc).mono ?_
  rintro e w2 ⟨v2, rfl, m, F, o2, f2, hm, hc2, hk2⟩
  have hs2 := hk2.1
  have hgF : g ∉ F := fun h9 => by have := f2 g h9; omega
  obtain ⟨A, cap, e2, _⟩ := o2.form
  subst e2
  clear hc
  go_wp2_with fail
  refine (spec_l1Once w0 _ g 12 (by decide) hc2).mono ?_
  rintro e w3 ⟨b, rfl, hc3, hk3⟩
  have o3 := o2.kept hgF hk3
  have hk3 := hk2.trans hk3
  have hs3 := hk3.1
  clear o2 hc2 hk2
  cases b with
  | true =>
    go_wp2_with fail
    refine (spec_l18Any w0 _ g hc3).mono ?_
    rintro e w4 ⟨n, v4, l, rfl, hB4, hl, hc4, hk4⟩
    have o4 := o3.kept hgF hk4
    obtain ⟨G, d1, _, d3⟩ := hB4.done
    obtain ⟨B, cap2, e4, _⟩ := d1.form
    subst e4
    clear o3 hB4
    go_wp2_with fail
    refine bodyPost_ret (v := .tuple #[.slice A m.length cap, .slice B l.length cap2]) (by simp [results, Tryz.results81, go_sem]) rfl ?_
    exact ⟨_, _, rfl, m, F, l, G, o4, f2, hm, d1, fun b hb => Nat.le_trans hs3 (d3 b hb), hl, hc4, hk3.trans hk4⟩
  | false =>
    go_wp2_with fail
    refine (spec_l18List w0 _ g m.length (by omega) (by unfold I64; omega) hc3).mono ?_
    rintro e w4 ⟨v4, l, rfl, hB4, hl, hc4, hk4⟩
    have o4 := o3.kept hgF hk4
    obtain ⟨G, d1, _, d3⟩ := hB4.done
    obtain ⟨B, cap2, e4, _⟩ := d1.form
    subst e4
    clear o3 hB4
    go_wp2_with fail
    refine bodyPost_ret (v := .tuple #[.slice A m.length cap, .slice B l.length cap2]) (by simp [results, Tryz.results81, go_sem]) rfl ?_
    exact ⟨_, _, rfl, m, F, l, G, o4, f2, hm, d1, fun b hb => Nat.le_trans hs3 (d3 b hb), by omega, hc4, hk3.trans hk4⟩
set_option maxHeartbeats 400000 in
set_option maxRecDepth 20000 in
theorem spec_l24Pair (w0 w : World) (g : Nat) (hc : Cur w0 w g) :
    Calls Tryz.prog 29 #[.pointer (some ⟨g, 0, none⟩)] w fun e w2 => ∃ v u, e = .returned (.tuple #[v, u]) ∧ PairAny w0 w w2 g v u := by
  obtain ⟨hx0, hg0, hg⟩ := hc.base
  clear hx0
  go_enter Tryz.func29, Tryz.ntmps29
  go_wp2_with fail
  refine (spec_l1Once w0 _ g 5 (by decide) hc).mono ?_
  rintro e w2 ⟨b, rfl, hc2, hk2⟩
  have hs2 := hk2.1
  clear hc
  cases b with
  | true =>
    go_wp2_with fail
    refine (spec_l17Matrix w0 _ g 8 (by decide) hc2).mono ?_
    rintro e w3 ⟨v3, m, F0, rfl, hB3, _, hm1, hm8, hc3, hk3⟩
    obtain ⟨F, o3, _, f3⟩ := hB3.done
    have hgF : g ∉ F := fun h9 => by have := f3 g h9; omega
    have hk3 := hk2.trans hk3
    have hs3 := hk3.1
    obtain ⟨A, cap, e3, _⟩ := o3.form
    subst e3
    clear hc2 hk2 hB3
    go_wp2_with fail
    refine (spec_l18List w0 _ g m.length (by omega) (by unfold I64; omega) hc3).mono ?_
    rintro e w4 ⟨v4, l, rfl, hB4, hl, hc4, hk4⟩
    have o4 := o3.kept hgF hk4
    obtain ⟨G, d1, _, d3⟩ := hB4.done
    obtain ⟨B, cap2, e4, _⟩ := d1.form
    subst e4
    clear o3 hB4
    go_wp2_with fail
    refine bodyPost_ret (v := .tuple #[.slice A m.length cap, .slice B l.length cap2]) (by simp [results, Tryz.results29, go_sem]) rfl ?_
    exact ⟨_, _, rfl, m, F, l, G, o4, fun b hb => Nat.le_trans hs2 (f3 b hb), by omega, d1, fun b hb => Nat.le_trans hs3 (d3 b hb), by omega, hc4, hk3.trans hk4⟩
  | false =>
    go_wp2_with fail
    refine (spec_l20Pair w0 _ g hc2).mono ?_
    rintro e w3 ⟨v3, u3, rfl, m, F, l, G, o3, f3, hm, d3, g3, hl, hc3, hk3⟩
    obtain ⟨A, cap, e3, _⟩ := o3.form
    subst e3
    obtain ⟨B, cap2, e4, _⟩ := d3.form
    subst e4
    go_wp2_with fail
    refine bodyPost_ret (v := .tuple #[.slice A m.length cap, .slice B l.length cap2]) (by simp [results, Tryz.results29, go_sem]) rfl ?_
    exact ⟨_, _, rfl, m, F, l, G, o3, fun b hb => Nat.le_trans hs2 (f3 b hb), hm, d3, fun b hb => Nat.le_trans hs2 (g3 b hb), hl, hc3, hk2.trans hk3⟩
end Go.Proofs.YtidchfncfcckiaaGreat
