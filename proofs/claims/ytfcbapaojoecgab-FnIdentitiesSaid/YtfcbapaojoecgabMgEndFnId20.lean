/-
  PLAIN LAW: CarryIdentities: what is computed.
-/
import Derived.Test.YtfcbapaojoecgabMgEndFnId19
import Derived.Test.YtfcbapaojoecgabMgEndFnId3
import Derived.Test.YtfcbapaojoecgabMgEndFnId10
import Derived.Test.YtfcbapaojoecgabMgEndFnId15

namespace Go.Proofs.Ytfcbapaojoecgab
open Go.RowKit

/-- what groups are -/
theorem goS_facts : ∀ (gs : List (List Int)) (all : List Int), goS all gs = true →
    (∀ g ∈ gs, 0 < g.length ∧ ∀ x ∈ g, (1 ≤ x ∧ x ≤ 399) ∧ x ∉ all) ∧ gs.Pairwise (fun a b => ∀ x ∈ b, x ∉ a)
  | [], _, _ => ⟨fun _ h => (by cases h), List.Pairwise.nil⟩
  | g :: gs, all, h => by
    rw [goS, Bool.and_eq_true, Bool.and_eq_true] at h
    obtain ⟨⟨h1, h2⟩, h3⟩ := h
    obtain ⟨k1, k2⟩ := goS_facts gs (all ++ g) h3
    have hg : ∀ x ∈ g, (1 ≤ x ∧ x ≤ 399) ∧ x ∉ all := fun x hx => by
      obtain ⟨j, hj, rfl⟩ := List.mem_iff_getElem.1 hx
      have h9 := List.all_eq_true.1 h1 j (List.mem_range.2 hj)
      rw [grpAt_eq hj, Bool.and_eq_true, Bool.and_eq_true] at h9
      refine ⟨of_decide_eq_true h9.1.1, fun hm => ?_⟩
      have h10 := h9.2
      rw [(hasI_iff _ _).2 hm] at h10
      cases h10
    refine ⟨fun a ha => ?_, List.pairwise_cons.2 ⟨fun b hb x hx hxg => ?_, k2⟩⟩
    · rcases List.mem_cons.1 ha with rfl | ha
      · exact ⟨by have : ¬ a.length = 0 := by simpa using h2
                  omega, hg⟩
      · obtain ⟨q1, q2⟩ := k1 a ha
        exact ⟨q1, fun x hx => ⟨(q2 x hx).1, fun hm => (q2 x hx).2 (List.mem_append_left _ hm)⟩⟩
    · exact ((k1 b hb).2 x hx).2 (List.mem_append_right _ hxg)
theorem len_sumLen : ∀ {g : List (List Int)} {x : List Int}, x ∈ g → x.length ≤ sumLen g
  | y :: g, x, h => by
    unfold sumLen
    rw [List.map_cons, List.sum_cons]
    rcases List.mem_cons.1 h with rfl | h
    · omega
    · have := len_sumLen h
      unfold sumLen at this
      omega
theorem groups_small {g : List (List Int)} (h : areGroups g = true) : sumLen g ≤ 8 ∧ g.length ≤ 8 ∧ ∀ x ∈ g, 0 < x.length ∧ x.length ≤ 8 := by
  have h1 := goS_sum _ _ h
  have h2 := goS_ne _ _ h
  rw [List.length_nil] at h1
  refine ⟨by omega, by omega, fun x hx => ⟨((goS_facts _ _ h).1 x hx).1, ?_⟩⟩
  have : x.length ≤ sumLen g := len_sumLen hx
  omega
theorem hdI_mem {x : List Int} (h : 0 < x.length) : hdI x ∈ x := by rw [hdI_eq h]; exact List.getElem_mem _
theorem pairwise_ne {gs : List (List Int)} (h : gs.Pairwise fun a b => ∀ x ∈ b, x ∉ a) : ∀ a ∈ gs, ∀ b ∈ gs, (∃ x, x ∈ a ∧ x ∈ b) → a = b := by
  induction h with
  | nil => intro a ha; cases ha
  | cons h1 h2 ih =>
    rename_i g l
    intro a ha b hb he
    obtain ⟨x, hxa, hxb⟩ := he
    rcases List.mem_cons.1 ha with rfl | ha'
    · rcases List.mem_cons.1 hb with rfl | hb'
      · rfl
      · exact absurd hxa (h1 b hb' x hxb)
    · rcases List.mem_cons.1 hb with rfl | hb'
      · exact absurd hxb (h1 a ha' x hxa)
      · exact ih a ha' b hb' ⟨x, hxa, hxb⟩
theorem heads_ne {g : List (List Int)} (h : areGroups g = true) : ∀ a ∈ g, ∀ b ∈ g, hdI a = hdI b → a = b := fun a ha b hb e =>
  pairwise_ne (goS_facts _ _ h).2 a ha b hb ⟨hdI a, hdI_mem ((goS_facts _ _ h).1 a ha).1, by rw [e]; exact hdI_mem ((goS_facts _ _ h).1 b hb).1⟩

/-- the last old entity whose part is k -/
def idTo (old : List Entity) (a : List Int) (k : Nat) : Nat → Int
  | 0 => 0
  | i + 1 => if a.getD i (-1) = (k : Int) then (old.getD i ⟨0, []⟩).id else idTo old a k i
/-- group number k gets its identifier -/
def stepC (old : List Entity) (a : List Int) (gs : List (List Int)) (s : List Entity × Int) (k : Nat) : List Entity × Int :=
  if idTo old a k a.length = 0 then (s.1 ++ [⟨s.2, gs.getD k []⟩], s.2 + 1) else (s.1 ++ [⟨idTo old a k a.length, gs.getD k []⟩], s.2)
def outC (old : List Entity) (a : List Int) (gs : List (List Int)) (n : Int) : Nat → List Entity × Int
  | 0 => ([], n)
  | m + 1 => stepC old a gs (outC old a gs n m) m
def sortF (xs : List Entity) : List Entity := xs.foldl (insFr Entity.id) []
theorem sortF_snoc (xs : List Entity) (x : Entity) : sortF (xs ++ [x]) = insFr Entity.id (sortF xs) x := by unfold sortF; rw [List.foldl_append]; rfl
theorem sortF_perm (xs : List Entity) : (sortF xs).Perm xs := by
  have := (insFr_all Entity.id xs [] List.Pairwise.nil).2
  rwa [List.append_nil] at this
theorem sortF_sorted (xs : List Entity) : SortedK Entity.id (sortF xs) := (insFr_all Entity.id xs [] List.Pairwise.nil).1
theorem outC_len (old : List Entity) (a : List Int) (gs : List (List Int)) (n : Int) : ∀ m, (outC old a gs n m).1.length = m ∧ n ≤ (outC old a gs n m).2 ∧ (outC old a gs n m).2 ≤ n + m
  | 0 => ⟨rfl, Int.le_refl _, by simp [outC]⟩
  | m + 1 => by
    obtain ⟨h1, h2, h3⟩ := outC_len old a gs n m
    unfold outC stepC
    split
    · refine ⟨by simp [h1], ?_, ?_⟩ <;> simp only <;> omega
    · refine ⟨by simp [h1], ?_, ?_⟩ <;> simp only <;> omega
def lastId (old : List Entity) : Int := (old.getD (old.length - 1) ⟨0, []⟩).id
def okC (old : List Entity) (g : List (List Int)) (n : Int) : Bool := areEnts old && areGroups g && inB n 1 9991 && !(decide (0 < old.length) && decide (n ≤ lastId old))
def gsC (g : List (List Int)) : List (List Int) := sortK hdI g
def asC (old : List Entity) (g : List (List Int)) : List Int := bestAsg (ovMat (mems old) (gsC g))
def carry (old : List Entity) (g : List (List Int)) (n : Int) : List Entity × Int × Bool :=
  if okC old g n then (sortF (outC old (asC old g) (gsC g) n (gsC g).length).1, (outC old (asC old g) (gsC g) n (gsC g).length).2, true) else ([], 0, false)
theorem carry_no {old : List Entity} {g : List (List Int)} {n : Int} (h : okC old g n = false) : carry old g n = ([], 0, false) := by unfold carry; rw [h]; rfl
theorem carry_yes {old : List Entity} {g : List (List Int)} {n : Int} (h : okC old g n = true) : carry old g n = (sortF (outC old (asC old g) (gsC g) n (gsC g).length).1, (outC old (asC old g) (gsC g) n (gsC g).length).2, true) := by unfold carry; rw [h]; rfl
theorem ovRow_ok (b : List (List Int)) (x : List Int) (hb : b.length ≤ 8) : okRow b.length (ovRow b x) = true := by
  unfold okRow
  rw [Bool.and_eq_true, Bool.and_eq_true]
  refine ⟨⟨by simp [ovRow_len], by simp [ovRow_len, hb]⟩, List.all_eq_true.2 fun y hy => ?_⟩
  unfold ovRow at hy
  obtain ⟨z, _, rfl⟩ := List.mem_map.1 hy
  unfold inB
  rw [decide_eq_true_eq]
  omega
theorem ovMat_ok (a b : List (List Int)) (ha : a.length ≤ 8) (hb : b.length ≤ 8) : ovMat a b = a.map (ovRow b) ∧ okMat (a.map (ovRow b)) = true := by
  refine ⟨by unfold ovMat; rw [if_neg (by omega)], ?_⟩
  unfold okMat
  rw [Bool.and_eq_true]
  refine ⟨List.all_eq_true.2 fun r hr => ?_, by simp [ha]⟩
  obtain ⟨x, hx, rfl⟩ := List.mem_map.1 hr
  have hw : width (a.map (ovRow b)) = b.length := by
    cases a with
    | nil => cases hx
    | cons y ys => simp [width, ovRow_len]
  rw [hw]
  exact ovRow_ok b x hb
theorem gsC_small {g : List (List Int)} (h : areGroups g = true) : (gsC g).length ≤ 8 ∧ ∀ x ∈ gsC g, 0 < x.length ∧ x.length ≤ 8 := by
  obtain ⟨_, h2, h3⟩ := groups_small h
  exact ⟨by unfold gsC; rw [sortK_len]; exact h2, fun x hx => h3 x ((sortK_perm hdI g).mem_iff.1 hx)⟩
theorem asC_len {old : List Entity} {g : List (List Int)} (h : areEnts old = true) (k : areGroups g = true) : (asC old g).length = old.length := by
  obtain ⟨e1, e2⟩ := ovMat_ok (mems old) (gsC g) (by rw [mems_len]; exact (ents_small h).2) (gsC_small k).1
  unfold asC bestAsg
  rw [e1, e2, if_pos rfl, asgFrom_len, List.length_map, mems_len]
theorem idTo_bd {old : List Entity} {lo hi : Int} (h0 : lo ≤ 0 ∧ 0 ≤ hi) (h : ∀ e ∈ old, lo ≤ e.id ∧ e.id ≤ hi) (a : List Int) (k : Nat) : ∀ m, lo ≤ idTo old a k m ∧ idTo old a k m ≤ hi
  | 0 => h0
  | m + 1 => by
    unfold idTo
    split
    · by_cases hm : m < old.length
      · rw [getD_at hm]; exact h _ (List.getElem_mem hm)
      · rw [List.getD_eq_getElem?_getD, List.getElem?_eq_none (by omega)]; exact h0
    · exact idTo_bd h0 h a k m
end Go.Proofs.Ytfcbapaojoecgab
