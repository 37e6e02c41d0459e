/-
  PLAIN LAWS: what ParseEntities answers.
-/
import Derived.Test.YtfieimmlcopbhaaDoorPIs
import Derived.Test.YtfieimmlcopbhaaDoorFmtE
namespace Go.Proofs.YtfieimmlcopbhaaDoor
open Go.RowKit

noncomputable def pE (s : ByteArray) : List Entity × Bool := ans areEnts fmtEnts [] s
theorem pI_emp : pI (bs []) = (0, false) := by
  rcases pI_cases (bs []) with ⟨n, h, _⟩ | ⟨_, h⟩
  · exfalso
    have h1 := h.data
    rw [bs_data] at h1
    unfold Go.Lib.itoa at h1
    split at h1
    · cases h1
    · obtain ⟨c, r, h2, _⟩ := decDigits_head n.toNat
      rw [h2] at h1; cases h1
  · exact h
theorem pIs_tr {ws : List ByteArray} (h : (pIs ws).2 = true) : (pIs ws).1 = ws.map fun s => (pI s).1 := by
  unfold pIs at h ⊢
  split at h
  · rename_i h1; rw [if_pos h1]
  · cases h
theorem goS_bd : ∀ (gs : List (List Int)) (all : List Int), goS all gs = true → (∀ g ∈ gs, g ≠ [] ∧ g.length ≤ 8 ∧ ∀ x ∈ g, 1 ≤ x ∧ x ≤ 399) ∧ gs.length + all.length ≤ 8
  | [], all, h => ⟨fun _ h => (by cases h), by rw [goS] at h; have := of_decide_eq_true h; simpa using this⟩
  | g :: gs, all, h => by
    rw [goS, Bool.and_eq_true, Bool.and_eq_true] at h
    obtain ⟨⟨h1, h2⟩, h3⟩ := h
    obtain ⟨h4, h5⟩ := goS_bd gs _ h3
    have hg : g ≠ [] := fun e => by rw [e] at h2; simp at h2
    have hl : 0 < g.length := List.length_pos_iff.2 hg
    rw [List.length_append] at h5
    refine ⟨fun x hx => ?_, by rw [List.length_cons]; omega⟩
    rcases List.mem_cons.1 hx with rfl | hx
    · refine ⟨hg, by omega, fun y hy => ?_⟩
      obtain ⟨j, hj, rfl⟩ := List.mem_iff_getElem.1 hy
      have h9 := List.all_eq_true.1 h1 j (List.mem_range.2 hj)
      rw [grpAt_eq hj, Bool.and_eq_true, Bool.and_eq_true] at h9
      exact of_decide_eq_true h9.1.1
    · exact h4 x hx
/-- what a right list of entities holds -/
theorem ents_bd {xs : List Entity} (h : areEnts xs = true) : xs.length ≤ 8 ∧ ∀ e ∈ xs, (1 ≤ e.id ∧ e.id ≤ 9999) ∧ e.members ≠ [] ∧ e.members.length ≤ 8 ∧ ∀ x ∈ e.members, 1 ≤ x ∧ x ≤ 399 := by
  unfold areEnts at h
  rw [Bool.and_eq_true] at h
  obtain ⟨h1, h2⟩ := h
  obtain ⟨h3, h4⟩ := goS_bd _ _ h2
  refine ⟨by unfold mems at h4; simpa using h4, fun e he => ⟨?_, h3 _ (List.mem_map.2 ⟨e, he, rfl⟩)⟩⟩
  obtain ⟨j, hj, rfl⟩ := List.mem_iff_getElem.1 he
  have h9 := List.all_eq_true.1 h1 j (List.mem_range.2 hj)
  rw [entAt_eq hj, Bool.and_eq_true] at h9
  exact of_decide_eq_true h9.1
theorem joinC (c : UInt8) (x : ByteArray) (xs : List ByteArray) : (joinS (x :: xs) ⟨#[c]⟩).data.toList = x.data.toList ++ ((xs.map (·.data.toList)).map fun y => c :: y).flatten := by
  rw [joinS_data, List.map_cons]
  show Go.Lib.join (x.data.toList :: xs.map (·.data.toList)) [c] = _
  generalize xs.map (·.data.toList) = ys
  induction ys generalizing x with
  | nil => simp [Go.Lib.join, List.intercalate]
  | cons y ys ih =>
    have h := ih (bs y)
    rw [bs_data] at h
    unfold Go.Lib.join at h ⊢
    rw [List.map_cons, List.flatten_cons]
    have e : [c].intercalate (x.data.toList :: y :: ys) = x.data.toList ++ ([c] ++ [c].intercalate (y :: ys)) := by
      simp [List.intercalate, List.intersperse]
    rw [e, h]; simp
theorem mapBs (l : List ByteArray) : (l.map (·.data.toList)).map bs = l := by
  rw [List.map_map]
  conv => rhs; rw [← List.map_id l]
  exact List.map_congr_left fun x _ => bs_mk x
theorem pcsJoin (c : UInt8) (xs : List ByteArray) (hne : xs ≠ []) (h : ∀ y ∈ xs, c ∉ y.data.toList) : pcs c (joinS xs ⟨#[c]⟩) = xs := by
  cases xs with
  | nil => exact absurd rfl hne
  | cons x xs =>
    unfold pcs
    rw [joinC, cutL_join c _ _ (h x (List.mem_cons_self ..)) (fun y hy => by
      obtain ⟨f, hf, rfl⟩ := List.mem_map.1 hy
      exact h f (List.mem_cons_of_mem _ hf)), ← List.map_cons (f := fun x : ByteArray => x.data.toList), mapBs]
theorem joinC_no (c d : UInt8) (hcd : d ≠ c) (xs : List ByteArray) (h : ∀ y ∈ xs, d ∉ y.data.toList) : d ∉ (joinS xs ⟨#[c]⟩).data.toList := by
  cases xs with
  | nil => rw [joinS_data]; simp [Go.Lib.join, List.intercalate]
  | cons x xs =>
    rw [joinC, List.mem_append]
    rintro (k | k)
    · exact h x (List.mem_cons_self ..) k
    · obtain ⟨l, hl, hd⟩ := List.mem_flatten.1 k
      obtain ⟨y, hy, rfl⟩ := List.mem_map.1 hl
      obtain ⟨f, hf, rfl⟩ := List.mem_map.1 hy
      rcases List.mem_cons.1 hd with e | e
      · exact hcd e
      · exact h f (List.mem_cons_of_mem _ hf) e
/-- an entity's members, as text -/
def mIn (e : Entity) : ByteArray := joinS (e.members.map itoaS) ⟨#[44]⟩
theorem itoas_no (c : UInt8) (h1 : isDg c = false) (h2 : c ≠ 45) (l : List Int) : ∀ y ∈ l.map itoaS, c ∉ y.data.toList := fun y hy => by
  obtain ⟨n, _, rfl⟩ := List.mem_map.1 hy
  rw [itoaS_data]; exact itoa_no c h1 h2 n
theorem E_data (e : Entity) : (fmtEnt e).data.toList = Go.Lib.itoa e.id ++ 58 :: (mIn e).data.toList := by
  unfold fmtEnt mIn
  rw [app_data, app_data, itoaS_data]
  simp
theorem E_32 (e : Entity) : (32 : UInt8) ∉ (fmtEnt e).data.toList := by
  rw [E_data, List.mem_append, List.mem_cons]
  rintro (h | h | h)
  · exact itoa_no 32 (by decide) (by decide) _ h
  · revert h; decide
  · exact joinC_no 44 32 (by decide) _ (itoas_no 32 (by decide) (by decide) _) h
theorem E_cut (e : Entity) : Go.Lib.cut (fmtEnt e).data.toList [58] = (Go.Lib.itoa e.id, (mIn e).data.toList, true) ∧ pcs 58 (fmtEnt e) = [itoaS e.id, mIn e] := by
  have h1 := itoa_no 58 (by decide) (by decide) e.id
  have h2 : (58 : UInt8) ∉ (mIn e).data.toList := joinC_no 44 58 (by decide) _ (itoas_no 58 (by decide) (by decide) _)
  refine ⟨by rw [E_data]; exact libcut_hit h1, ?_⟩
  unfold pcs
  rw [E_data, cutL_hit h1, cutL_all h2, List.map_cons, List.map_cons, List.map_nil, bs_mk]
  rfl
theorem E_44 {e : Entity} (h : e.members ≠ []) : pcs 44 (mIn e) = e.members.map itoaS := pcsJoin 44 _ (by simpa using h) (itoas_no 44 (by decide) (by decide) _)
theorem num_back {l : List Int} (h : ∀ x ∈ l, 1 ≤ x ∧ x ≤ 399) : (l.map itoaS).map (fun s => (pI s).1) = l ∧ ∀ s ∈ l.map itoaS, (pI s).2 = true := by
  constructor
  · rw [List.map_map]
    conv => rhs; rw [← List.map_id l]
    exact List.map_congr_left fun x hx => by show (pI (itoaS x)).1 = x; rw [pI_hit (NumOf.of_range (by have := h x hx; omega))]
  · intro s hs
    obtain ⟨x, hx, rfl⟩ := List.mem_map.1 hs
    rw [pI_hit (NumOf.of_range (by have := h x hx; omega))]
/-- an entity, as the program takes it of a piece -/
noncomputable def eI (p : ByteArray) : Entity × Bool :=
  (⟨(pI (bs (Go.Lib.cut p.data.toList [58]).1)).1, (pIs (pcs 44 (bs (Go.Lib.cut p.data.toList [58]).2.1))).1⟩, (pI (bs (Go.Lib.cut p.data.toList [58]).1)).2 && (pIs (pcs 44 (bs (Go.Lib.cut p.data.toList [58]).2.1))).2)
/-- an entity, as the reference takes it of a piece -/
noncomputable def eS (p : ByteArray) : Entity := ⟨(pI ((pcs 58 p).headD ⟨#[]⟩)).1, ((pcs 44 ((pcs 58 p).getLastD ⟨#[]⟩)).take 9).map fun s => (pI s).1⟩
theorem eI_back {e : Entity} (h : (1 ≤ e.id ∧ e.id ≤ 9999) ∧ e.members ≠ [] ∧ e.members.length ≤ 8 ∧ ∀ x ∈ e.members, 1 ≤ x ∧ x ≤ 399) : eI (fmtEnt e) = (e, true) := by
  obtain ⟨h1, h2, h3, h4⟩ := h
  obtain ⟨n1, n2⟩ := num_back h4
  unfold eI
  rw [(E_cut e).1]
  simp only
  rw [bs_mk, E_44 h2, pIs_yes n2, n1, pI_itoa (by omega)]
  rfl
theorem eS_back {e : Entity} (h : (1 ≤ e.id ∧ e.id ≤ 9999) ∧ e.members ≠ [] ∧ e.members.length ≤ 8 ∧ ∀ x ∈ e.members, 1 ≤ x ∧ x ≤ 399) : eS (fmtEnt e) = e := by
  obtain ⟨h1, h2, h3, h4⟩ := h
  obtain ⟨n1, n2⟩ := num_back h4
  unfold eS
  rw [(E_cut e).2]
  show (⟨(pI (itoaS e.id)).1, ((pcs 44 (mIn e)).take 9).map fun s => (pI s).1⟩ : Entity) = e
  rw [E_44 h2, List.take_of_length_le (by rw [List.length_map]; omega), n1, pI_hit (NumOf.of_range (by omega))]
def sNone : ByteArray := ⟨#[110, 111, 110, 101]⟩
theorem ents_form {xs : List Entity} {s : ByteArray} (h : areEnts xs = true) (e : fmtEnts xs = s) : (xs = [] ∧ s = sNone) ∨ (xs ≠ [] ∧ s ≠ sNone ∧ pcs 32 s = xs.map fmtEnt) := by
  cases xs with
  | nil => exact .inl ⟨rfl, by rw [← e, fmtEnts_none h rfl]; rfl⟩
  | cons x xs =>
    have e2 := fmtEnts_some h (by simp)
    rw [e] at e2
    refine .inr ⟨by simp, fun e3 => ?_, ?_⟩
    · rw [e2] at e3
      have h9 : (joinS ((x :: xs).map fmtEnt) ⟨#[32]⟩).data.toList = sNone.data.toList := by rw [e3]
      rw [List.map_cons, joinC, E_data] at h9
      have hm : (58 : UInt8) ∈ sNone.data.toList := by rw [← h9]; simp
      revert hm; decide
    · rw [e2, pcsJoin 32 _ (by simp) fun y hy => by
        obtain ⟨z, _, rfl⟩ := List.mem_map.1 hy
        exact E_32 z]
theorem pE_none : pE sNone = ([], true) := by
  refine ans_yes (c := ([] : List Entity)) (fun x h1 h2 => ?_) rfl ?_
  · rcases ents_form h1 h2 with ⟨h, _⟩ | ⟨_, h, _⟩
    · exact h
    · exact absurd rfl h
  · rw [fmtEnts_none (xs := []) rfl rfl]; rfl
theorem pE_A {s : ByteArray} (hs : ¬ s = sNone) : ∀ x, areEnts x = true → fmtEnts x = s → x = (pcs 32 s).map (fun p => (eI p).1) ∧ (∀ p ∈ pcs 32 s, (eI p).2 = true) ∧ x = (pcs 32 s).map eS ∧ (pcs 32 s).length ≤ 8 := fun x h1 h2 => by
  obtain ⟨b1, b2⟩ := ents_bd h1
  rcases ents_form h1 h2 with ⟨_, h⟩ | ⟨_, _, h⟩
  · exact absurd h hs
  · rw [h]
    refine ⟨?_, fun p hp => ?_, ?_, by rw [List.length_map]; exact b1⟩
    · rw [List.map_map]
      conv => lhs; rw [← List.map_id x]
      exact List.map_congr_left fun e he => by show e = (eI (fmtEnt e)).1; rw [eI_back (b2 e he)]
    · obtain ⟨e, he, rfl⟩ := List.mem_map.1 hp
      rw [eI_back (b2 e he)]
    · rw [List.map_map]
      conv => lhs; rw [← List.map_id x]
      exact List.map_congr_left fun e he => by show e = eS (fmtEnt e); rw [eS_back (b2 e he)]
theorem fmtEnts_ok {x : List Entity} {s : ByteArray} (h : fmtEnts x = s) (hs : s ≠ ⟨#[]⟩) : areEnts x = true := by
  cases hv : areEnts x with
  | true => rfl
  | false => exact absurd (by rw [← h]; unfold fmtEnts; rw [if_neg (by simp [hv])]) hs
theorem eI_size {p : ByteArray} (h : (eI p).2 = true) : 1 + (eI p).1.members.length ≤ p.size := by
  unfold eI at h ⊢
  simp only at h ⊢
  rw [Bool.and_eq_true] at h
  have hp : p.data.toList.length = p.size := Array.length_toList
  rcases cut_of 58 p.data.toList with ⟨a, r, ha, he⟩ | hno
  · rw [he, libcut_hit ha] at h ⊢
    rw [he] at hp
    rw [List.length_append, List.length_cons] at hp
    simp only at h ⊢
    have h0 : 0 < a.length := by
      rcases Nat.eq_zero_or_pos a.length with h9 | h9
      · rw [List.eq_nil_of_length_eq_zero h9, pI_emp] at h
        exact absurd h.1 (by simp)
      · exact h9
    rw [pIs_tr h.2, List.length_map]
    have := pcs_len 44 (bs r)
    rw [bs_size] at this
    omega
  · exfalso
    rw [libcut_none hno] at h
    have h2 := h.2
    simp only at h2
    have e0 : pcs 44 (bs []) = [bs []] := rfl
    rw [e0, pIs_no (k := 0) (by simp) (by show (pI (bs [])).2 = false; rw [pI_emp])] at h2
    cases h2
theorem cutL_sum (c : UInt8) : ∀ l : List UInt8, ((cutL c l).map List.length).sum ≤ l.length
  | [] => by simp [cutL]
  | b :: l => by
    have ih := cutL_sum c l
    rcases cut_of c (b :: l) with ⟨a, r, ha, he⟩ | hno
    · rw [he, cutL_hit ha]
      have := cutL_sum c r
      simp only [List.map_cons, List.sum_cons, List.length_append, List.length_cons]
      omega
    · rw [cutL_all hno]; simp
termination_by l => l.length
decreasing_by
  all_goals first
    | (simp; done)
    | (have h9 := congrArg List.length he; simp at h9 ⊢; omega)
theorem ents_ms {ps : List ByteArray} (h : ∀ p ∈ ps, (eI p).2 = true) : msEnts (ps.map fun p => (eI p).1) ≤ (ps.map ByteArray.size).sum := by
  induction ps with
  | nil => simp [msEnts, sumMem]
  | cons p ps ih =>
    have h1 := eI_size (h p (List.mem_cons_self ..))
    have h2 := ih fun q hq => h q (List.mem_cons_of_mem _ hq)
    unfold msEnts sumMem at h2 ⊢
    simp only [List.map_cons, List.sum_cons, List.length_cons] at h2 ⊢
    omega
theorem pcs_sum (c : UInt8) (s : ByteArray) : ((pcs c s).map ByteArray.size).sum ≤ s.size := by
  have h := cutL_sum c s.data.toList
  unfold pcs
  rw [List.map_map]
  have e : (cutL c s.data.toList).map (ByteArray.size ∘ bs) = (cutL c s.data.toList).map List.length := List.map_congr_left fun x _ => bs_size x
  rw [e]
  have e2 : s.data.toList.length = s.size := Array.length_toList
  omega
end Go.Proofs.YtfieimmlcopbhaaDoor
