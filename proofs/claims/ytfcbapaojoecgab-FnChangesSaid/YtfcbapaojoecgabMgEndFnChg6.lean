/-
  PLAIN LAWS: what DescribeChanges tells: every identifier that appears or disappears, and no unchanged entity.
-/
import Derived.Test.YtfcbapaojoecgabMgEndCarId18
import Derived.Test.YtfcbapaojoecgabMgEndFnChg3

namespace Go.Proofs.Ytfcbapaojoecgab
open Go.RowKit

/-- is it among the changes told of -/
def toldB (l : List Change) (x : Int) : Bool := l.any fun c => c.id == x
/-- does it stand there unchanged -/
noncomputable def sameB (b : List Entity) (e : Entity) : Bool := b.any fun f => f.id == e.id && eqB e.members f.members
theorem descOld_id {now : List Entity} {e : Entity} {c : Change} (h : c ∈ descOld now e) : c.id = e.id := by
  unfold descOld at h
  split at h
  · split at h
    · cases h
    · rw [List.mem_singleton] at h; rw [h]
  · split at h <;> (rw [List.mem_singleton] at h; rw [h])
theorem descNew_id {old : List Entity} {e : Entity} {c : Change} (h : c ∈ descNew old e) : c.id = e.id ∧ ¬ 0 ≤ atId old e.id := by
  unfold descNew at h
  split at h
  · cases h
  · rename_i hn
    split at h <;> (rw [List.mem_singleton] at h; rw [h]; exact ⟨rfl, hn⟩)
theorem atId_mem {xs : List Entity} {e : Entity} (h : e ∈ xs) : 0 ≤ atId xs e.id := by
  have h9 : decide (0 ≤ atId xs e.id) = _ := idxF_any (fun f : Entity => f.id == e.id) _ _
  rw [List.any_eq_true.2 ⟨e, h, by simp⟩] at h9
  simpa using h9
theorem ents_inj {xs : List Entity} (h : areEnts xs = true) {x y : Entity} (hx : x ∈ xs) (hy : y ∈ xs) (e : x.id = y.id) : x = y := by
  refine pairwise_inj (f := Entity.id) ?_ x hx y hy e
  rw [List.pairwise_iff_getElem]
  intro i j hi hj hij
  have := entAt_lt h hi hj hij
  omega
theorem descOld_nil {now : List Entity} (h : areEnts now = true) (e : Entity) : sameB now e = true ↔ descOld now e = [] := by
  unfold sameB
  rw [List.any_eq_true]
  constructor
  · rintro ⟨f, hf, h2⟩
    rw [Bool.and_eq_true, beq_iff_eq, eqB_iff] at h2
    have h0 := atId_mem hf
    rw [h2.1] at h0
    obtain ⟨k, hk, e1, e2⟩ := atId_some h0
    have : now[k] = f := ents_inj h (List.getElem_mem hk) hf (by rw [e2, h2.1])
    exact descOld_same hk e1 (by rw [this]; exact h2.2.symm)
  · intro hd
    unfold descOld at hd
    split at hd
    · rename_i h0
      obtain ⟨k, hk, e1, e2⟩ := atId_some h0
      split at hd
      · rename_i hm
        rw [e1, Int.toNat_natCast, getD_at hk] at hm
        refine ⟨now[k], List.getElem_mem hk, ?_⟩
        rw [Bool.and_eq_true, beq_iff_eq, eqB_iff]
        exact ⟨e2, hm.symm⟩
      · cases hd
    · split at hd <;> cases hd
theorem told_same {a b : List Entity} (ha : areEnts a = true) (hb : areEnts b = true) {e : Entity} (he : e ∈ a) : toldB (desc a b) e.id = !sameB b e := by
  rw [desc_yes ha hb]
  cases hs : sameB b e with
  | true =>
    have hn := (descOld_nil hb e).1 hs
    unfold toldB
    rw [List.any_eq_false.2]
    · rfl
    · intro c hc hcid
      rw [beq_iff_eq] at hcid
      rcases List.mem_append.1 hc with hc | hc
      · obtain ⟨f, hf, hcf⟩ := List.mem_flatMap.1 hc
        have := ents_inj ha hf he (by rw [← descOld_id hcf, hcid])
        subst this
        rw [hn] at hcf
        cases hcf
      · obtain ⟨f, hf, hcf⟩ := List.mem_flatMap.1 hc
        obtain ⟨h1, h2⟩ := descNew_id hcf
        rw [← h1, hcid] at h2
        exact h2 (atId_mem he)
  | false =>
    have hn : descOld b e ≠ [] := fun h => by
      have := (descOld_nil hb e).2 h
      rw [hs] at this
      cases this
    obtain ⟨c, hc⟩ := List.exists_mem_of_ne_nil _ hn
    unfold toldB
    rw [List.any_eq_true.2 ⟨c, List.mem_append_left _ (List.mem_flatMap.2 ⟨e, he, hc⟩), by rw [beq_iff_eq]; exact descOld_id hc⟩]
    rfl
theorem desc_self (a : List Entity) : desc a a = [] := by
  by_cases h : areEnts a = true
  · rw [desc_yes h h]
    have h1 : a.flatMap (descOld a) = [] := List.flatMap_eq_nil_iff.2 fun e he => (descOld_nil h e).1 (by
      unfold sameB
      exact List.any_eq_true.2 ⟨e, he, by rw [Bool.and_eq_true, beq_iff_eq, eqB_iff]; exact ⟨rfl, rfl⟩⟩)
    have h2 : a.flatMap (descNew a) = [] := List.flatMap_eq_nil_iff.2 fun e he => descNew_old (atId_mem he)
    rw [h1, h2]
    rfl
  · exact desc_no fun hh => h hh.1
theorem toldB_take {l : List Change} {x : Int} {k : Nat} (h : k < l.length) : toldB (l.take (k + 1)) x = (toldB (l.take k) x || l[k].id == x) := by
  unfold toldB
  rw [List.take_succ_eq_append_getElem h, List.any_append]
  simp
theorem sameB_take {b : List Entity} {e : Entity} {k : Nat} (h : k < b.length) : sameB (b.take (k + 1)) e = (sameB (b.take k) e || (b[k].id == e.id && eqB e.members b[k].members)) := by
  unfold sameB
  rw [List.take_succ_eq_append_getElem h, List.any_append]
  simp
end Go.Proofs.Ytfcbapaojoecgab
