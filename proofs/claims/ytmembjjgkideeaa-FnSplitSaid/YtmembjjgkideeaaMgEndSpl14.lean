/-
  SEVERAL SMALL TEXTS LAID TOGETHER: SplP, SplQ, SplR.
-/
import Derived.Test.YtmembjjgkideeaaMgEndSpl9
import Derived.Test.YtmembjjgkideeaaMgEndSpl11
import Derived.Test.YtmembjjgkideeaaMgEndSpl1
import Derived.Test.YtmembjjgkideeaaMgEndSpl0
import Derived.Test.YtmembjjgkideeaaMgEndSpl5

namespace Go.Proofs.Ytmembjjgkideeaa
open Go.RowKit

/-- the group that holds x -/
def grIx (g : List (List Int)) (x : Int) : Int := idxF (fun gr => hasI x gr) 0 g
/-- the groups but two, of the first n -/
def keepG (g : List (List Int)) (i k : Int) : Nat → List (List Int)
  | 0 => []
  | n + 1 => if (n : Int) = i ∨ (n : Int) = k then keepG g i k n else keepG g i k n ++ [g.getD n []]
def partG (g : List (List Int)) (i a : Int) : List Int := if 0 ≤ i then g.getD i.toNat [] else [a]
def joinG (g : List (List Int)) (a b : Int) : List (List Int) :=
  keepG g (grIx g a) (grIx g b) g.length ++ [if 0 ≤ grIx g a ∧ grIx g a = grIx g b then partG g (grIx g a) a else partG g (grIx g a) a ++ partG g (grIx g b) b]
def apartG (g : List (List Int)) (c : List Verdict) : Bool := c.all fun v => !(decide (0 ≤ grIx g v.a) && grIx g v.a == grIx g v.b)
/-- one link more: labels -/
def linkS (L : Int → Int) (a b : Int) : Int → Int := fun x => if L x = max (L a) (L b) then min (L a) (L b) else L x
def linkV (L : Int → Int) (v : Verdict) : Int → Int := if v.same then linkS L v.a v.b else L
def linkL (l : List Verdict) : Int → Int := l.foldl linkV id
def clashV (l : List Verdict) : Bool := l.any fun v => !v.same && linkL l v.a == linkL l v.b
/-- the program's step, the reference's -/
def stP (s : List Verdict × List Verdict) (v : Verdict) : List Verdict × List Verdict := if clashV (s.1 ++ [v]) then (s.1, s.2 ++ [v]) else (s.1 ++ [v], s.2)
noncomputable def stR (c : List Verdict) (s : List (List Int) × List Verdict × List Verdict) (v : Verdict) : List (List Int) × List Verdict × List Verdict :=
  if apartG (joinG s.1 v.a v.b) c then (joinG s.1 v.a v.b, (addV (sortS s.2.1) v).1, s.2.2) else (s.1, s.2.1, s.2.2 ++ [v])
def lateF (v : Verdict) : Int := -v.time
def mustV (l : List Verdict) : List Verdict := sortK lateF (l.filter fun v => v.same)
def cantV (l : List Verdict) : List Verdict := l.filter fun v => !v.same
def splitV (xs : List Verdict) : List Verdict × List Verdict :=
  let r := (mustV (curV xs)).foldl stP (cantV (curV xs), [])
  (sortS r.1, sortS r.2)
noncomputable def splitR (xs : List Verdict) : List Verdict × List Verdict :=
  let r := (mustV (curV xs)).foldl (stR (cantV (curV xs))) ([], cantV (curV xs), [])
  (sortS r.2.1, sortS r.2.2)

theorem idxF_found {α : Type} (p : α → Bool) : ∀ (xs : List α) (k : Nat), (idxF p k xs = -1 ∧ ∀ x ∈ xs, p x = false) ∨ ∃ (j : Nat) (h : j < xs.length), idxF p k xs = (k + j : Nat) ∧ p xs[j] = true ∧ ∀ (i : Nat) (hi : i < j), p (xs[i]'(by omega)) = false
  | [], k => .inl ⟨rfl, fun _ h => by cases h⟩
  | x :: xs, k => by
    by_cases hp : p x = true
    · exact .inr ⟨0, by simp, by rw [idxF, if_pos hp]; simp, by simpa using hp, fun i hi => absurd hi (Nat.not_lt_zero _)⟩
    · have hp' : p x = false := by simpa using hp
      rcases idxF_found p xs (k + 1) with ⟨h1, h2⟩ | ⟨j, hj, h1, h2, h3⟩
      · refine .inl ⟨by rw [idxF, if_neg hp]; exact h1, fun y hy => ?_⟩
        rcases List.mem_cons.1 hy with rfl | hy
        · exact hp'
        · exact h2 y hy
      · refine .inr ⟨j + 1, by simpa using hj, by rw [idxF, if_neg hp, h1]; congr 1; omega, by simpa using h2, fun i hi => ?_⟩
        cases i with
        | zero => exact hp'
        | succ i => exact h3 i (by omega)
theorem grIx_cases (g : List (List Int)) (x : Int) : (grIx g x = -1 ∧ ∀ gr ∈ g, x ∉ gr) ∨ ∃ (j : Nat) (h : j < g.length), grIx g x = (j : Int) ∧ x ∈ g[j] := by
  rcases idxF_found (fun gr => hasI x gr) g 0 with ⟨h1, h2⟩ | ⟨j, hj, h1, h2, _⟩
  · refine .inl ⟨h1, fun gr hg hx => ?_⟩
    have := h2 gr hg
    rw [(hasI_iff _ _).2 hx] at this
    cases this
  · exact .inr ⟨j, hj, by unfold grIx; rw [h1, Nat.zero_add], (hasI_iff _ _).1 h2⟩
/-- groups that share nothing -/
def Apart (g : List (List Int)) : Prop := g.Pairwise fun a b => ∀ z ∈ a, z ∉ b
theorem Apart.one {g : List (List Int)} (h : Apart g) {i j : Nat} (hi : i < g.length) (hj : j < g.length) {z : Int} (h1 : z ∈ g[i]) (h2 : z ∈ g[j]) : i = j := by
  rcases Nat.lt_trichotomy i j with e | e | e
  · exact absurd h2 (List.pairwise_iff_getElem.1 h i j hi hj e z h1)
  · exact e
  · exact absurd h1 (List.pairwise_iff_getElem.1 h j i hj hi e z h2)
theorem grIx_at {g : List (List Int)} (h : Apart g) {j : Nat} (hj : j < g.length) {x : Int} (hx : x ∈ g[j]) : grIx g x = (j : Int) := by
  rcases grIx_cases g x with ⟨_, h2⟩ | ⟨i, hi, e, h2⟩
  · exact absurd hx (h2 _ (List.getElem_mem hj))
  · rw [e, h.one hi hj h2 hx]
theorem keepG_mem (g : List (List Int)) (i k : Int) : ∀ n, n ≤ g.length → ∀ gr, gr ∈ keepG g i k n ↔ ∃ (j : Nat) (h : j < g.length), j < n ∧ (j : Int) ≠ i ∧ (j : Int) ≠ k ∧ gr = g[j]
  | 0, _, gr => ⟨fun h => (by cases h), fun ⟨_, _, h, _⟩ => absurd h (Nat.not_lt_zero _)⟩
  | n + 1, hn, gr => by
    have ih := keepG_mem g i k n (by omega) gr
    unfold keepG
    split
    · rename_i hq
      rw [ih]
      constructor
      · rintro ⟨j, hj, h1, h2⟩
        exact ⟨j, hj, by omega, h2⟩
      · rintro ⟨j, hj, h1, h2, h3, h4⟩
        exact ⟨j, hj, by omega, h2, h3, h4⟩
    · rename_i hq
      rw [List.mem_append, ih, List.mem_singleton, List.getD_eq_getElem?_getD, List.getElem?_eq_getElem (by omega), Option.getD_some]
      constructor
      · rintro (⟨j, hj, h1, h2⟩ | e)
        · exact ⟨j, hj, by omega, h2⟩
        · exact ⟨n, by omega, by omega, fun e => hq (.inl e), fun e => hq (.inr e), e⟩
      · rintro ⟨j, hj, h1, h2, h3, h4⟩
        by_cases e : j = n
        · subst e; exact .inr h4
        · exact .inl ⟨j, hj, by omega, h2, h3, h4⟩
theorem keepG_apart {g : List (List Int)} (h : Apart g) (i k : Int) : ∀ n, n ≤ g.length → Apart (keepG g i k n)
  | 0, _ => List.Pairwise.nil
  | n + 1, hn => by
    have ih := keepG_apart h i k n (by omega)
    unfold keepG
    split
    · exact ih
    · refine List.pairwise_append.2 ⟨ih, List.pairwise_singleton _ _, fun a ha b hb z hz => ?_⟩
      rw [List.mem_singleton, List.getD_eq_getElem?_getD, List.getElem?_eq_getElem (by omega), Option.getD_some] at hb
      obtain ⟨j, hj, h1, _, _, rfl⟩ := (keepG_mem g i k n (by omega) a).1 ha
      subst hb
      exact List.pairwise_iff_getElem.1 h j n hj (by omega) h1 z hz
/-- labels and groups say the same -/
structure LG (L : Int → Int) (g : List (List Int)) : Prop where
  ap : Apart g
  eq : ∀ x y, L x = L y ↔ x = y ∨ ∃ gr ∈ g, x ∈ gr ∧ y ∈ gr
theorem LG.start : LG id [] := ⟨List.Pairwise.nil, fun x y => ⟨fun h => .inl h, fun h => by
  rcases h with h | ⟨_, h, _⟩
  · exact h
  · cases h⟩⟩
theorem LG.part {L : Int → Int} {g : List (List Int)} (h : LG L g) (a z : Int) : z ∈ partG g (grIx g a) a ↔ L z = L a := by
  rw [h.eq]
  rcases grIx_cases g a with ⟨e, hn⟩ | ⟨j, hj, e, hm⟩
  · unfold partG
    rw [e, if_neg (by omega), List.mem_singleton]
    exact ⟨fun e => .inl e, fun h => by
      rcases h with h | ⟨gr, hg, _, h3⟩
      · exact h
      · exact absurd h3 (hn gr hg)⟩
  · unfold partG
    rw [e, if_pos (by omega), Int.toNat_natCast, List.getD_eq_getElem?_getD, List.getElem?_eq_getElem hj, Option.getD_some]
    constructor
    · exact fun hz => .inr ⟨_, List.getElem_mem hj, hz, hm⟩
    · rintro (rfl | ⟨gr, hg, h2, h3⟩)
      · exact hm
      · obtain ⟨i, hi, rfl⟩ := List.mem_iff_getElem.1 hg
        have := h.ap.one hi hj h3 hm
        subst this
        exact h2
theorem LG.joined {L : Int → Int} {g : List (List Int)} (h : LG L g) (a b z : Int) :
    z ∈ (if 0 ≤ grIx g a ∧ grIx g a = grIx g b then partG g (grIx g a) a else partG g (grIx g a) a ++ partG g (grIx g b) b) ↔ L z = L a ∨ L z = L b := by
  split
  · rename_i hc
    rw [h.part a]
    have hab : L a = L b := by
      rcases grIx_cases g a with ⟨e, _⟩ | ⟨j, hj, e, hm⟩
      · omega
      · rcases grIx_cases g b with ⟨e2, _⟩ | ⟨i, hi, e2, hm2⟩
        · omega
        · have : i = j := by omega
          subst this
          exact (h.eq a b).2 (.inr ⟨_, List.getElem_mem hj, hm, hm2⟩)
    rw [hab]
    exact ⟨fun e => .inl e, fun e => e.elim id id⟩
  · rw [List.mem_append, h.part a, h.part b]
theorem link_eq (L : Int → Int) (a b x y : Int) : linkS L a b x = linkS L a b y ↔ L x = L y ∨ ((L x = L a ∨ L x = L b) ∧ (L y = L a ∨ L y = L b)) := by
  unfold linkS
  split <;> split <;> omega
theorem LG.join {L : Int → Int} {g : List (List Int)} (h : LG L g) (a b : Int) : LG (linkS L a b) (joinG g a b) := by
  obtain ⟨J, hJ⟩ : ∃ J, J = (if 0 ≤ grIx g a ∧ grIx g a = grIx g b then partG g (grIx g a) a else partG g (grIx g a) a ++ partG g (grIx g b) b) := ⟨_, rfl⟩
  have hz : ∀ z, z ∈ J ↔ L z = L a ∨ L z = L b := fun z => by rw [hJ]; exact h.joined a b z
  have hj : joinG g a b = keepG g (grIx g a) (grIx g b) g.length ++ [J] := by rw [hJ]; rfl
  have out : ∀ (q : Nat) (hq : q < g.length) (c : Int), (q : Int) ≠ grIx g c → ∀ z ∈ g[q], ¬ L z = L c := fun q hq c hne z hm e => by
    rcases (h.eq z c).1 e with rfl | ⟨gr, hg, h2, h3⟩
    · exact hne (grIx_at h.ap hq hm).symm
    · obtain ⟨i, hi, rfl⟩ := List.mem_iff_getElem.1 hg
      have := h.ap.one hi hq h2 hm
      subst this
      exact hne (grIx_at h.ap hi h3).symm
  rw [hj]
  constructor
  · refine List.pairwise_append.2 ⟨keepG_apart h.ap _ _ _ (Nat.le_refl _), List.pairwise_singleton _ _, fun x hx y hy z hzx hzy => ?_⟩
    rw [List.mem_singleton] at hy
    subst hy
    obtain ⟨q, hq, _, h2, h3, rfl⟩ := (keepG_mem g _ _ _ (Nat.le_refl _) x).1 hx
    rcases (hz z).1 hzy with e | e
    · exact out q hq a h2 z hzx e
    · exact out q hq b h3 z hzx e
  · intro x y
    rw [link_eq, h.eq x y]
    constructor
    · rintro ((e | ⟨gr, hg, h2, h3⟩) | ⟨h1, h2⟩)
      · exact .inl e
      · obtain ⟨q, hq, rfl⟩ := List.mem_iff_getElem.1 hg
        by_cases ha : (q : Int) = grIx g a
        · right
          refine ⟨J, List.mem_append_right _ (List.mem_singleton_self J), ?_, ?_⟩ <;> rw [hz] <;> left <;> rw [← h.part a, ← ha] <;> unfold partG <;> rw [if_pos (by omega), Int.toNat_natCast, List.getD_eq_getElem?_getD, List.getElem?_eq_getElem hq, Option.getD_some] <;> assumption
        · by_cases hb : (q : Int) = grIx g b
          · right
            refine ⟨J, List.mem_append_right _ (List.mem_singleton_self J), ?_, ?_⟩ <;> rw [hz] <;> right <;> rw [← h.part b, ← hb] <;> unfold partG <;> rw [if_pos (by omega), Int.toNat_natCast, List.getD_eq_getElem?_getD, List.getElem?_eq_getElem hq, Option.getD_some] <;> assumption
          · exact .inr ⟨_, List.mem_append_left _ ((keepG_mem g _ _ _ (Nat.le_refl _) _).2 ⟨q, hq, hq, ha, hb, rfl⟩), h2, h3⟩
      · exact .inr ⟨J, List.mem_append_right _ (List.mem_singleton_self J), (hz x).2 h1, (hz y).2 h2⟩
    · rintro (e | ⟨gr, hg, h2, h3⟩)
      · exact .inl (.inl e)
      · rcases List.mem_append.1 hg with hg | hg
        · obtain ⟨q, hq, _, _, _, rfl⟩ := (keepG_mem g _ _ _ (Nat.le_refl _) gr).1 hg
          exact .inl (.inr ⟨_, List.getElem_mem hq, h2, h3⟩)
        · rw [List.mem_singleton] at hg
          subst hg
          exact .inr ⟨(hz x).1 h2, (hz y).1 h3⟩
theorem LG.apart {L : Int → Int} {g : List (List Int)} (h : LG L g) {c : List Verdict} (hc : ∀ v ∈ c, ¬ v.a = v.b) : apartG g c = !c.any fun v => L v.a == L v.b := by
  have one : ∀ v ∈ c, (decide (0 ≤ grIx g v.a) && grIx g v.a == grIx g v.b) = (L v.a == L v.b) := fun v hv => by
    rw [Bool.eq_iff_iff, Bool.and_eq_true, decide_eq_true_eq, beq_iff_eq, beq_iff_eq, h.eq]
    constructor
    · rintro ⟨h1, h2⟩
      rcases grIx_cases g v.a with ⟨e, _⟩ | ⟨j, hj, e, hm⟩
      · omega
      · rcases grIx_cases g v.b with ⟨e2, _⟩ | ⟨i, hi, e2, hm2⟩
        · omega
        · have : i = j := by omega
          subst this
          exact .inr ⟨_, List.getElem_mem hj, hm, hm2⟩
    · rintro (e | ⟨gr, hg, h2, h3⟩)
      · exact absurd e (hc v hv)
      · obtain ⟨q, hq, rfl⟩ := List.mem_iff_getElem.1 hg
        rw [grIx_at h.ap hq h2, grIx_at h.ap hq h3]
        exact ⟨by omega, rfl⟩
  unfold apartG
  rw [Bool.eq_iff_iff, List.all_eq_true, Bool.not_eq_true', List.any_eq_false]
  constructor
  · intro k v hv e
    have := k v hv
    rw [one v hv, e] at this
    cases this
  · intro k v hv
    rw [one v hv]
    have := k v hv
    simpa using this
end Go.Proofs.Ytmembjjgkideeaa

namespace Go.Proofs.Ytmembjjgkideeaa
open Go.RowKit

theorem linkL_snoc (l : List Verdict) (v : Verdict) : linkL (l ++ [v]) = linkV (linkL l) v := by
  unfold linkL
  rw [List.foldl_append]
  rfl
theorem putV_perm (xs : List Verdict) (v : Verdict) : (putV xs v).Perm (v :: xs) := by
  unfold putV
  have := @List.perm_middle _ v (xs.take (cntV xs v)) (xs.drop (cntV xs v))
  rwa [List.take_append_drop] at this
theorem okV_ne {v : Verdict} (h : okV v = true) : ¬ v.a = v.b := by
  unfold okV at h
  simp only [Bool.and_eq_true, decide_eq_true_eq] at h
  omega
theorem any_app {c acc : List Verdict} {p : Verdict → Bool} (h : ∀ v ∈ acc, p v = false) : (c ++ acc).any p = c.any p := by
  have e : acc.any p = false := List.any_eq_false.2 fun v hv => by rw [h v hv]; simp
  rw [List.any_append, e, Bool.or_false]
theorem clash_eq {c acc : List Verdict} {v : Verdict} (hc : ∀ x ∈ c, x.same = false) (ha : ∀ x ∈ acc, x.same = true) (hv : v.same = true) : clashV ((c ++ acc) ++ [v]) = c.any fun x => linkS (linkL (c ++ acc)) v.a v.b x.a == linkS (linkL (c ++ acc)) v.a v.b x.b := by
  unfold clashV
  rw [linkL_snoc]
  unfold linkV
  rw [if_pos hv, List.append_assoc, any_app fun x hx => ?_]
  · rw [Bool.eq_iff_iff, List.any_eq_true, List.any_eq_true]
    constructor
    · rintro ⟨x, hx, h⟩
      rw [Bool.and_eq_true] at h
      exact ⟨x, hx, h.2⟩
    · rintro ⟨x, hx, h⟩
      exact ⟨x, hx, by rw [hc x hx, h]; rfl⟩
  · rcases List.mem_append.1 hx with hx | hx
    · rw [ha x hx]; rfl
    · rw [List.mem_singleton] at hx; rw [hx, hv]; rfl
theorem split_inv (c : List Verdict) (hc : ∀ x ∈ c, x.same = false ∧ okV x = true) : ∀ (m acc ref kept : List Verdict) (g : List (List Int)),
    (∀ x ∈ m, x.same = true ∧ okV x = true) → (∀ x ∈ acc, x.same = true ∧ okV x = true) → (c ++ acc ++ m).Nodup → (c ++ acc ++ m).length ≤ 8 → LG (linkL (c ++ acc)) g → kept.Perm (c ++ acc) →
    ∃ r : List Verdict × List Verdict, m.foldl stP (c ++ acc, ref) = r ∧ ∃ g2 k2, m.foldl (stR c) (g, kept, ref) = (g2, k2, r.2) ∧ k2.Perm r.1
  | [], acc, ref, kept, g, _, _, _, _, _, hp => ⟨_, rfl, g, kept, rfl, hp⟩
  | v :: m, acc, ref, kept, g, hm, ha, hn, hl, hg, hp => by
    obtain ⟨hv, hvo⟩ := hm v (List.mem_cons_self ..)
    have hm2 : ∀ x ∈ m, x.same = true ∧ okV x = true := fun x hx => hm x (List.mem_cons_of_mem v hx)
    have hj := hg.join v.a v.b
    have hap := hj.apart (c := c) fun x hx => okV_ne (hc x hx).2
    have hcl := clash_eq (c := c) (acc := acc) (v := v) (fun x hx => (hc x hx).1) (fun x hx => (ha x hx).1) hv
    rw [← hcl] at hap
    simp only [List.foldl_cons]
    have hn2 : (c ++ acc ++ [v] ++ m).Nodup := by simpa using hn
    have hl2 : (c ++ acc ++ [v] ++ m).length ≤ 8 := by simpa using hl
    cases hk : clashV ((c ++ acc) ++ [v]) with
    | true =>
      have e1 : stP (c ++ acc, ref) v = (c ++ acc, ref ++ [v]) := by unfold stP; rw [if_pos hk]
      have e2 : stR c (g, kept, ref) v = (g, kept, ref ++ [v]) := by
        unfold stR
        rw [if_neg (by show ¬ apartG (joinG g v.a v.b) c = true; rw [hap, hk]; decide)]
      rw [e1, e2]
      refine split_inv c hc m acc (ref ++ [v]) kept g hm2 ha ?_ ?_ hg hp
      · have : (c ++ acc ++ m).Sublist (c ++ acc ++ [v] ++ m) := List.Sublist.append (List.sublist_append_left _ _) (List.Sublist.refl _)
        exact hn2.sublist this
      · simp only [List.length_append, List.length_cons, List.length_nil] at hl2 ⊢; omega
    | false =>
      have e1 : stP (c ++ acc, ref) v = (c ++ (acc ++ [v]), ref) := by
        unfold stP
        rw [if_neg (by show ¬ clashV ((c ++ acc) ++ [v]) = true; rw [hk]; decide)]
        show ((c ++ acc) ++ [v], ref) = _
        rw [List.append_assoc]
      have e2 : stR c (g, kept, ref) v = (joinG g v.a v.b, (addV (sortS kept) v).1, ref) := by
        unfold stR
        rw [if_pos (by show apartG (joinG g v.a v.b) c = true; rw [hap, hk]; rfl)]
      rw [e1, e2]
      have hca : (c ++ acc).Nodup := (List.nodup_append.1 (List.nodup_append.1 hn2).1).1
      have hsp := (sortS_perm kept).trans hp
      have hnv : v ∉ sortS kept := fun hmm => by
        have := (List.nodup_append.1 (List.nodup_append.1 hn2).1).2.2 v (hsp.mem_iff.1 hmm) v (List.mem_singleton_self v)
        exact this rfl
      have hav : areVers (sortS kept) = true := by
        refine asc_areVers (sortS_asc ((hp.nodup_iff).2 hca)) (fun x hx => ?_) ?_
        · rcases List.mem_append.1 (hsp.mem_iff.1 hx) with hx | hx
          · exact (hc x hx).2
          · exact (ha x hx).2
        · rw [hsp.length_eq]
          simp only [List.length_append, List.length_cons, List.length_nil] at hl2 ⊢; omega
      have hadd := addV_yes (xs := sortS kept) (x := v) ⟨hav, hvo, (by
        rcases idxV_cases (sortS kept) v with ⟨e, _⟩ | ⟨j, hj, _, e⟩
        · exact e
        · exact absurd (e ▸ List.getElem_mem hj) hnv), by
        rw [hsp.length_eq]
        simp only [List.length_append, List.length_cons, List.length_nil] at hl2 ⊢; omega⟩
      rw [hadd]
      refine split_inv c hc m (acc ++ [v]) ref (putV (sortS kept) v) (joinG g v.a v.b) hm2 (fun x hx => ?_) (by simpa using hn2) (by simpa using hl2) ?_ ?_
      · rcases List.mem_append.1 hx with hx | hx
        · exact ha x hx
        · rw [List.mem_singleton] at hx; rw [hx]; exact ⟨hv, hvo⟩
      · rw [← List.append_assoc, linkL_snoc]
        unfold linkV
        rw [if_pos hv]
        exact hj
      · refine (putV_perm _ _).trans ?_
        rw [← List.append_assoc]
        exact ((List.Perm.cons v hsp).trans (List.perm_append_singleton v (c ++ acc)).symm)
/-- current verdicts: ascending, verdicts of the list -/
theorem curV_facts (xs : List Verdict) : (curV xs).Nodup ∧ (∀ x ∈ curV xs, okV x = true) ∧ (curV xs).length ≤ 8 := by
  unfold curV
  by_cases h : areVers xs = true
  · rw [if_pos h]
    obtain ⟨h1, h2, h3⟩ := areVers_asc h
    have key : ∀ k, k ≤ xs.length → ((xs.take k).foldl curStep []).Pairwise vlt ∧ (∀ x ∈ (xs.take k).foldl curStep [], x ∈ xs.take k) ∧ ((xs.take k).foldl curStep []).length ≤ k := fun k => by
      induction k with
      | zero => intro _; exact ⟨List.Pairwise.nil, fun x hx => (by simp at hx), by simp⟩
      | succ k ih =>
        intro hk
        obtain ⟨i1, i2, i3⟩ := ih (by omega)
        rw [cur_step xs k hk]
        obtain ⟨o, ho⟩ : ∃ o, o = (xs.take k).foldl curStep [] := ⟨_, rfl⟩
        rw [← ho] at i1 i2 i3 ⊢
        have hlt : ∀ x ∈ o, vlt x xs[k] := fun x hx => by
          obtain ⟨j, hj, e⟩ := List.mem_iff_getElem.1 (i2 x hx)
          rw [List.getElem_take] at e
          rw [← e]
          rw [List.length_take] at hj
          exact h1 j k (by omega) hk (by omega)
        have hin : ∀ x ∈ o, x ∈ xs.take (k + 1) := fun x hx => by
          rw [List.take_succ_eq_append_getElem hk]
          exact List.mem_append_left _ (i2 x hx)
        have hself : xs[k] ∈ xs.take (k + 1) := by
          rw [List.take_succ_eq_append_getElem hk]
          exact List.mem_append_right _ (List.mem_singleton_self _)
        have app : ∀ q : List Verdict, q.Sublist o → (q ++ [xs[k]]).Pairwise vlt ∧ (∀ x ∈ q ++ [xs[k]], x ∈ xs.take (k + 1)) ∧ (q ++ [xs[k]]).length ≤ k + 1 := fun q hq => by
          refine ⟨List.pairwise_append.2 ⟨i1.sublist hq, List.pairwise_singleton _ _, fun x hx y hy => ?_⟩, fun x hx => ?_, ?_⟩
          · rw [List.mem_singleton] at hy; rw [hy]; exact hlt x (hq.subset hx)
          · rcases List.mem_append.1 hx with hx | hx
            · exact hin x (hq.subset hx)
            · rw [List.mem_singleton] at hx; rw [hx]; exact hself
          · have := hq.length_le
            rw [List.length_append, List.length_singleton]; omega
        unfold curStep
        split
        · exact app o (List.Sublist.refl _)
        · split
          · split
            · exact app _ (List.dropLast_sublist o)
            · exact ⟨i1, hin, by omega⟩
          · exact app o (List.Sublist.refl _)
    obtain ⟨k1, k2, k3⟩ := key xs.length (Nat.le_refl _)
    rw [List.take_length] at k1 k2 k3
    exact ⟨k1.imp fun h e => by subst e; exact vlt_irr _ h, fun x hx => h2 x (k2 x hx), by omega⟩
  · rw [if_neg h]
    exact ⟨List.nodup_nil, fun _ h => (by cases h), Nat.zero_le _⟩
theorem filter_perm2 (p : Verdict → Bool) : ∀ xs : List Verdict, ((xs.filter fun v => !p v) ++ xs.filter p).Perm xs
  | [] => List.Perm.nil
  | x :: xs => by
    have ih := filter_perm2 p xs
    cases h : p x with
    | true =>
      rw [List.filter_cons_of_neg (by simp [h]), List.filter_cons_of_pos h]
      exact List.perm_middle.trans (List.Perm.cons x ih)
    | false =>
      rw [List.filter_cons_of_pos (by simp [h]), List.filter_cons_of_neg (by simp [h])]
      exact List.Perm.cons x ih
theorem must_perm (l : List Verdict) : (cantV l ++ mustV l).Perm l := by
  unfold cantV mustV
  exact ((List.Perm.refl _).append (sortK_perm lateF _)).trans (filter_perm2 _ l)
/-- both ways end alike -/
theorem splitR_eq (xs : List Verdict) : splitR xs = splitV xs := by
  obtain ⟨h1, h2, h3⟩ := curV_facts xs
  have hp := must_perm (curV xs)
  have hm : ∀ x ∈ mustV (curV xs), x.same = true ∧ okV x = true := fun x hx => by
    have := (sortK_perm lateF _).mem_iff.1 hx
    have h9 := List.mem_filter.1 this
    exact ⟨h9.2, h2 x h9.1⟩
  have hc : ∀ x ∈ cantV (curV xs), x.same = false ∧ okV x = true := fun x hx => by
    have h9 := List.mem_filter.1 hx
    exact ⟨by simpa using h9.2, h2 x h9.1⟩
  obtain ⟨r, e1, g2, k2, e2, e3⟩ := split_inv (cantV (curV xs)) hc (mustV (curV xs)) [] [] (cantV (curV xs)) [] hm (fun _ h => by cases h) (by
    rw [List.append_nil]; exact hp.nodup_iff.2 h1) (by rw [List.append_nil, hp.length_eq]; exact h3) (by
    rw [List.append_nil]
    have : linkL (cantV (curV xs)) = id := by
      have key : ∀ (l : List Verdict) (L : Int → Int), (∀ x ∈ l, x.same = false) → l.foldl linkV L = L := by
        intro l
        induction l with
        | nil => intro L _; rfl
        | cons x l ih =>
          intro L h
          simp only [List.foldl_cons]
          have : linkV L x = L := by unfold linkV; rw [h x (List.mem_cons_self ..)]; rfl
          rw [this]
          exact ih L fun y hy => h y (List.mem_cons_of_mem x hy)
      exact key _ id fun x hx => (hc x hx).1
    rw [this]
    exact LG.start) (by rw [List.append_nil])
  rw [List.append_nil] at e1
  unfold splitR splitV
  rw [e1, e2]
  show (sortS k2, sortS r.2) = (sortS r.1, sortS r.2)
  rw [sortedV_eq (sortS_sorted k2) (sortS_sorted r.1) ((sortS_perm k2).trans (e3.trans (sortS_perm r.1).symm))]
end Go.Proofs.Ytmembjjgkideeaa

namespace Go.Proofs.Ytmembjjgkideeaa
open Go.RowKit

def edgeV (l : List Verdict) (x y : Int) : Prop := ∃ v ∈ l, v.same = true ∧ v.a = x ∧ v.b = y
theorem edgeV_mono {l l' : List Verdict} (h : ∀ v ∈ l, v ∈ l') {x y : Int} (c : Conn (edgeV l) x y) : Conn (edgeV l') x y :=
  c.mono fun a b ⟨v, hv, hs, ha, hb⟩ => Conn.one ⟨v, h v hv, hs, ha, hb⟩
theorem linkL_conn : ∀ (n : Nat) (l : List Verdict), l.length = n → ∀ x y, linkL l x = linkL l y ↔ Conn (edgeV l) x y
  | 0, l, h, x, y => by
    have : l = [] := List.eq_nil_of_length_eq_zero h
    subst this
    refine ⟨fun e => ?_, fun c => ?_⟩
    · have : x = y := e
      subst this
      exact .refl
    · exact Conn.keep (S := fun z => linkL [] x = linkL [] z) (fun a b _ h => by rcases h with ⟨_, h, _⟩ | ⟨_, h, _⟩ <;> cases h) c rfl
  | n + 1, l, h, x, y => by
    rcases List.eq_nil_or_concat l with rfl | ⟨p, v, rfl⟩
    · simp at h
    · rw [List.concat_eq_append] at h ⊢
      have ih := linkL_conn n p (by simpa using h)
      have up : ∀ {a b : Int}, Conn (edgeV p) a b → Conn (edgeV (p ++ [v])) a b := fun c => edgeV_mono (fun z hz => List.mem_append_left _ hz) c
      rw [linkL_snoc]
      unfold linkV
      by_cases hs : v.same = true
      · rw [if_pos hs]
        have hab : Conn (edgeV (p ++ [v])) v.a v.b := Conn.one ⟨v, List.mem_append_right _ (List.mem_singleton_self v), hs, rfl, rfl⟩
        constructor
        · intro e
          rcases (link_eq _ _ _ _ _).1 e with e | ⟨e1, e2⟩
          · exact up ((ih x y).1 e)
          · have k1 : Conn (edgeV (p ++ [v])) x v.a := e1.elim (fun e => up ((ih x v.a).1 e)) fun e => (up ((ih x v.b).1 e)).trans hab.symm
            have k2 : Conn (edgeV (p ++ [v])) y v.a := e2.elim (fun e => up ((ih y v.a).1 e)) fun e => (up ((ih y v.b).1 e)).trans hab.symm
            exact k1.trans k2.symm
        · intro c
          have sym : ∀ a b : Int, edgeV (p ++ [v]) a b → linkS (linkL p) v.a v.b a = linkS (linkL p) v.a v.b b := fun a b ⟨z, hz, h1, h2, h3⟩ => by
            rcases List.mem_append.1 hz with hz | hz
            · exact (link_eq _ _ _ _ _).2 (.inl ((ih a b).2 (Conn.one ⟨z, hz, h1, h2, h3⟩)))
            · rw [List.mem_singleton] at hz
              subst hz
              rw [← h2, ← h3]
              exact (link_eq _ _ _ _ _).2 (.inr ⟨.inl rfl, .inr rfl⟩)
          exact Conn.keep (S := fun z => linkS (linkL p) v.a v.b x = linkS (linkL p) v.a v.b z) (fun a b h1 h2 => h1.trans (h2.elim (sym a b) fun h => (sym b a h).symm)) c rfl
      · rw [if_neg hs, ih]
        refine ⟨up, fun c => c.mono fun a b ⟨z, hz, h1, h2, h3⟩ => ?_⟩
        rcases List.mem_append.1 hz with hz | hz
        · exact Conn.one ⟨z, hz, h1, h2, h3⟩
        · rw [List.mem_singleton] at hz; subst hz; exact absurd h1 hs
theorem clash_iff {l : List Verdict} : clashV l = true ↔ ∃ v ∈ l, v.same = false ∧ Conn (edgeV l) v.a v.b := by
  unfold clashV
  rw [List.any_eq_true]
  constructor
  · rintro ⟨v, hv, h⟩
    rw [Bool.and_eq_true, Bool.not_eq_true', beq_iff_eq, linkL_conn _ l rfl] at h
    exact ⟨v, hv, h⟩
  · rintro ⟨v, hv, h⟩
    refine ⟨v, hv, ?_⟩
    rw [Bool.and_eq_true, Bool.not_eq_true', beq_iff_eq, linkL_conn _ l rfl]
    exact h
theorem clash_mono {l l' : List Verdict} (h : ∀ v ∈ l, v ∈ l') (c : clashV l = true) : clashV l' = true := by
  obtain ⟨v, hv, h1, h2⟩ := clash_iff.1 c
  exact clash_iff.2 ⟨v, h v hv, h1, edgeV_mono h h2⟩
theorem split_fold : ∀ (m s1 s2 : List Verdict), clashV s1 = false → (∀ v ∈ s2, clashV (s1 ++ [v]) = true) →
    ∃ r : List Verdict × List Verdict, m.foldl stP (s1, s2) = r ∧ clashV r.1 = false ∧ (∀ v ∈ r.2, clashV (r.1 ++ [v]) = true) ∧ (r.1 ++ r.2).Perm (s1 ++ s2 ++ m) ∧ ∀ v ∈ r.2, v ∈ s2 ∨ v ∈ m
  | [], s1, s2, h1, h2 => ⟨_, rfl, h1, h2, by rw [List.append_nil]; exact List.Perm.refl _, fun v hv => .inl hv⟩
  | v :: m, s1, s2, h1, h2 => by
    rw [List.foldl_cons]
    cases hk : clashV (s1 ++ [v]) with
    | true =>
      have e : stP (s1, s2) v = (s1, s2 ++ [v]) := by unfold stP; rw [if_pos hk]
      rw [e]
      obtain ⟨r, k1, k2, k3, k4, k5⟩ := split_fold m s1 (s2 ++ [v]) h1 (fun x hx => by
        rcases List.mem_append.1 hx with hx | hx
        · exact h2 x hx
        · rw [List.mem_singleton] at hx; subst hx; exact hk)
      refine ⟨r, k1, k2, k3, k4.trans ?_, fun x hx => ?_⟩
      · simp
      · rcases k5 x hx with hx | hx
        · rcases List.mem_append.1 hx with hx | hx
          · exact .inl hx
          · rw [List.mem_singleton] at hx; subst hx; exact .inr (List.mem_cons_self ..)
        · exact .inr (List.mem_cons_of_mem _ hx)
    | false =>
      have e : stP (s1, s2) v = (s1 ++ [v], s2) := by unfold stP; rw [if_neg (by show ¬ clashV (s1 ++ [v]) = true; rw [hk]; decide)]
      rw [e]
      obtain ⟨r, k1, k2, k3, k4, k5⟩ := split_fold m (s1 ++ [v]) s2 hk (fun x hx => clash_mono (fun z hz => by
        rcases List.mem_append.1 hz with hz | hz
        · exact List.mem_append_left _ (List.mem_append_left _ hz)
        · exact List.mem_append_right _ hz) (h2 x hx))
      refine ⟨r, k1, k2, k3, k4.trans ?_, fun x hx => (k5 x hx).imp id fun h => List.mem_cons_of_mem _ h⟩
      have : (s1 ++ [v] ++ s2 ++ m).Perm (s1 ++ (s2 ++ [v]) ++ m) := by
        rw [List.append_assoc s1]
        exact ((List.perm_append_comm).append_left s1).append_right m
      exact this.trans (by simp)
/-- what splitting leaves -/
theorem split_facts (xs : List Verdict) : clashV (splitV xs).1 = false ∧ (∀ v ∈ (splitV xs).2, clashV ((splitV xs).1 ++ [v]) = true ∧ v.same = true) ∧ ((splitV xs).1 ++ (splitV xs).2).Perm (curV xs) ∧
    ∀ v ∈ (splitV xs).1 ++ (splitV xs).2, okV v = true := by
  obtain ⟨h1, h2, h3⟩ := curV_facts xs
  have hc : ∀ x ∈ cantV (curV xs), x.same = false ∧ okV x = true := fun x hx => by
    have h9 := List.mem_filter.1 hx
    exact ⟨by simpa using h9.2, h2 x h9.1⟩
  have h0 : clashV (cantV (curV xs)) = false := by
    cases hk : clashV (cantV (curV xs)) with
    | false => rfl
    | true =>
      obtain ⟨v, hv, _, hco⟩ := clash_iff.1 hk
      have : v.a = v.b := Conn.keep (S := fun z => v.a = z) (fun a b _ h => by
        rcases h with ⟨z, hz, h, _⟩ | ⟨z, hz, h, _⟩ <;> (rw [(hc z hz).1] at h; cases h)) hco rfl
      exact absurd this (okV_ne (hc v hv).2)
  obtain ⟨r, k1, k2, k3, k4, k5⟩ := split_fold (mustV (curV xs)) (cantV (curV xs)) [] h0 (fun _ h => by cases h)
  rw [List.append_nil] at k4
  have e : splitV xs = (sortS r.1, sortS r.2) := by unfold splitV; rw [k1]
  have kp := k4.trans (must_perm (curV xs))
  have p1 := sortS_perm r.1
  have p2 := sortS_perm r.2
  rw [e]
  refine ⟨?_, fun v hv => ⟨?_, ?_⟩, (p1.append p2).trans kp, fun v hv => h2 v (((p1.append p2).trans kp).mem_iff.1 hv)⟩
  · cases hk : clashV (sortS r.1) with
    | false => rfl
    | true => rw [clash_mono (fun z hz => p1.mem_iff.1 hz) hk] at k2; cases k2
  · refine clash_mono (fun z hz => ?_) (k3 v (p2.mem_iff.1 hv))
    rcases List.mem_append.1 hz with hz | hz
    · exact List.mem_append_left _ (p1.mem_iff.2 hz)
    · exact List.mem_append_right _ hz
  · rcases k5 v (p2.mem_iff.1 hv) with h | h
    · cases h
    · have := (sortK_perm lateF _).mem_iff.1 h
      exact (List.mem_filter.1 this).2

/-! ### The same, said of constraints over a list of items -/
def Holds8 (items : List Int) (l : List Verdict) : Prop := ∀ v ∈ l, okV v = true ∧ v.a ∈ items ∧ v.b ∈ items
theorem idx_at {items : List Int} {x : Int} (h : x ∈ items) : ∃ j : Nat, j < items.length ∧ idxI x items = (j : Int) ∧ items.getD j 0 = x := by
  rcases idxI_cases x items with ⟨_, h2⟩ | ⟨j, hj, h1, h2, _⟩
  · exact absurd h h2
  · exact ⟨j, hj, h1, h2⟩
theorem idx_of {items : List Int} (hs : items.Pairwise (· < ·)) {j : Nat} (hj : j < items.length) : idxI (items.getD j 0) items = (j : Int) := by
  obtain ⟨i, hi, h1, h2⟩ := idx_at (getD_mem hj)
  rw [getD_getElem hi, getD_getElem hj] at h2
  rw [h1]
  have hp := List.pairwise_iff_getElem.1 hs
  by_cases h3 : i < j
  · have := hp i j hi hj h3; omega
  · by_cases h4 : j < i
    · have := hp j i hj hi h4; omega
    · omega
theorem idx_lt {items : List Int} (hs : items.Pairwise (· < ·)) {x y : Int} (hx : x ∈ items) (hy : y ∈ items) (h : x < y) : 0 ≤ idxI x items ∧ idxI x items < idxI y items ∧ idxI y items < items.length := by
  obtain ⟨i, hi, h1, h2⟩ := idx_at hx
  obtain ⟨j, hj, h3, h4⟩ := idx_at hy
  rw [h1, h3]
  have hp := List.pairwise_iff_getElem.1 hs
  rw [getD_getElem hi] at h2
  rw [getD_getElem hj] at h4
  have : i < j := by
    by_cases h3 : j < i
    · have := hp j i hj hi h3; omega
    · by_cases h4 : i = j
      · subst h4; omega
      · omega
  omega
theorem okV_lt {v : Verdict} (h : okV v = true) : v.a < v.b := by
  unfold okV at h
  simp only [Bool.and_eq_true, decide_eq_true_eq] at h
  omega
theorem vcon_at {items : List Int} (hs : items.Pairwise (· < ·)) {v : Verdict} (h : okV v = true ∧ v.a ∈ items ∧ v.b ∈ items) : vcon items v = [⟨idxI v.a items, idxI v.b items, v.same⟩] := by
  have := idx_lt hs h.2.1 h.2.2 (okV_lt h.1)
  exact vcon_yes this.1 this.2.1
theorem vcons_map {items : List Int} (hs : items.Pairwise (· < ·)) : ∀ {l : List Verdict}, Holds8 items l → vcons items l = l.map fun v => ⟨idxI v.a items, idxI v.b items, v.same⟩
  | [], _ => rfl
  | v :: l, h => by
    have ih := vcons_map hs (l := l) fun x hx => h x (List.mem_cons_of_mem _ hx)
    unfold vcons at ih ⊢
    rw [List.flatMap_cons, vcon_at hs (h v (List.mem_cons_self ..)), ih]
    rfl
theorem vcons_con {items : List Int} (hs : items.Pairwise (· < ·)) {l : List Verdict} (h : Holds8 items l) (h1 : 1 ≤ items.length) (h8 : items.length ≤ 8) (hl : l.length ≤ 10) : areConB items.length (vcons items l) = true := by
  rw [vcons_map hs h]
  refine areCon_iff.2 ⟨by omega, by omega, by rw [List.length_map]; exact hl, fun c hc => ?_⟩
  obtain ⟨v, hv, rfl⟩ := List.mem_map.1 hc
  have := idx_lt hs (h v hv).2.1 (h v hv).2.2 (okV_lt (h v hv).1)
  exact ⟨this.1, by show idxI v.a items < _; omega, by show 0 ≤ idxI v.b items; omega, this.2.2, this.2.1⟩
theorem vcons_conn {items : List Int} (hs : items.Pairwise (· < ·)) {l : List Verdict} (h : Holds8 items l) {x y : Int} (hx : x ∈ items) (hy : y ∈ items) :
    Conn (mustR (vcons items l)) (idxI x items).toNat (idxI y items).toNat ↔ Conn (edgeV l) x y := by
  have hm := vcons_map hs h
  obtain ⟨i, hi, i1, i2⟩ := idx_at hx
  obtain ⟨j, hj, j1, j2⟩ := idx_at hy
  rw [i1, j1, Int.toNat_natCast, Int.toNat_natCast]
  have edge : ∀ a b : Nat, mustR (vcons items l) a b → a < items.length ∧ b < items.length ∧ Conn (edgeV l) (items.getD a 0) (items.getD b 0) := fun a b ⟨c, hc, hsm, hab⟩ => by
    rw [hm] at hc
    obtain ⟨v, hv, rfl⟩ := List.mem_map.1 hc
    obtain ⟨p, hp, p1, p2⟩ := idx_at (h v hv).2.1
    obtain ⟨q, hq, q1, q2⟩ := idx_at (h v hv).2.2
    have he : Conn (edgeV l) v.a v.b := Conn.one ⟨v, hv, hsm, rfl, rfl⟩
    rcases hab with ⟨e1, e2⟩ | ⟨e1, e2⟩
    · have e1 : idxI v.a items = (a : Int) := e1
      have e2 : idxI v.b items = (b : Int) := e2
      have : p = a := by omega
      subst this
      have : q = b := by omega
      subst this
      rw [p2, q2]
      exact ⟨hp, hq, he⟩
    · have e1 : idxI v.a items = (b : Int) := e1
      have e2 : idxI v.b items = (a : Int) := e2
      have : p = b := by omega
      subst this
      have : q = a := by omega
      subst this
      rw [p2, q2]
      exact ⟨hq, hp, he.symm⟩
  constructor
  · intro c
    have := Conn.keep (S := fun k => k < items.length ∧ Conn (edgeV l) x (items.getD k 0)) (fun a b ⟨ha, hc⟩ hl => by
      rcases hl with hl | hl
      · obtain ⟨_, e2, e3⟩ := edge a b hl
        exact ⟨e2, hc.trans e3⟩
      · obtain ⟨e1, _, e3⟩ := edge b a hl
        exact ⟨e1, hc.trans e3.symm⟩) c ⟨hi, by rw [i2]; exact .refl⟩
    rw [j2] at this
    exact this.2
  · intro c
    have := Conn.keep (S := fun z => ∃ k : Nat, k < items.length ∧ items.getD k 0 = z ∧ Conn (mustR (vcons items l)) i k) (fun a b ⟨k, hk, e, hc⟩ hl => by
      have one : ∀ v ∈ l, v.same = true → mustR (vcons items l) (idxI v.a items).toNat (idxI v.b items).toNat := fun v hv hsm => by
        have := idx_lt hs (h v hv).2.1 (h v hv).2.2 (okV_lt (h v hv).1)
        exact ⟨⟨idxI v.a items, idxI v.b items, v.same⟩, by rw [hm]; exact List.mem_map.2 ⟨v, hv, rfl⟩, hsm, .inl ⟨by show idxI v.a items = _; omega, by show idxI v.b items = _; omega⟩⟩
      have ek : idxI a items = (k : Int) := by rw [← e]; exact idx_of hs hk
      rcases hl with ⟨v, hv, hsm, rfl, rfl⟩ | ⟨v, hv, hsm, rfl, rfl⟩
      · obtain ⟨q, hq, q1, q2⟩ := idx_at (h v hv).2.2
        have h9 := one v hv hsm
        rw [ek, q1, Int.toNat_natCast, Int.toNat_natCast] at h9
        exact ⟨q, hq, q2, hc.step (.inl h9)⟩
      · obtain ⟨q, hq, q1, q2⟩ := idx_at (h v hv).2.1
        have h9 := one v hv hsm
        rw [ek, q1, Int.toNat_natCast, Int.toNat_natCast] at h9
        exact ⟨q, hq, q2, hc.step (.inr h9)⟩) c ⟨i, hi, i2, .refl⟩
    obtain ⟨k, hk, e, hc⟩ := this
    have : k = j := by
      have a1 := idx_of hs hk
      rw [e, j1] at a1
      omega
    subst this
    exact hc
/-- consistent as constraints: no clash -/
theorem vcons_consist {items : List Int} (hs : items.Pairwise (· < ·)) {l : List Verdict} (h : Holds8 items l) (h1 : 1 ≤ items.length) (h8 : items.length ≤ 8) (hl : l.length ≤ 10) : consistB items.length (vcons items l) = !clashV l := by
  rw [Bool.eq_iff_iff, consist_iff (vcons_con hs h h1 h8 hl), Bool.not_eq_true']
  have hm := vcons_map hs h
  constructor
  · intro hall
    cases hk : clashV l with
    | false => rfl
    | true =>
      obtain ⟨v, hv, hsm, hco⟩ := clash_iff.1 hk
      have := hall ⟨idxI v.a items, idxI v.b items, v.same⟩ (by rw [hm]; exact List.mem_map.2 ⟨v, hv, rfl⟩) hsm
      exact absurd ((vcons_conn hs h (h v hv).2.1 (h v hv).2.2).2 hco) this
  · intro hk c hc hsm hco
    rw [hm] at hc
    obtain ⟨v, hv, rfl⟩ := List.mem_map.1 hc
    have := clash_iff.2 ⟨v, hv, hsm, (vcons_conn hs h (h v hv).2.1 (h v hv).2.2).1 hco⟩
    rw [hk] at this
    cases this
end Go.Proofs.Ytmembjjgkideeaa
