/-
  SEVERAL SMALL TEXTS LAID TOGETHER: SubP, PartI, RepI, BstP, BlkI, CostI, ResC, TriP, PivI, WalP, CluP, TabC, TriI, Clg.
-/
import Derived.Test.YtidchfncfcckiaaGreatMgEndClu2
import Derived.Test.YtidchfncfcckiaaGreatMgEndClu0
import Derived.Test.YtidchfncfcckiaaGreatMgEndClu3
import Derived.Laws.CopyRow
import Derived.Shelf.RegionOpenPlain

namespace Go.Proofs.YtidchfncfcckiaaGreat
open Go.RowKit

def subM (m : List (List Int)) (it : List Int) : List (List Int) := it.map fun x => it.map fun y => ent m x.toNat y.toNat
def SubTo (m : List (List Int)) (it : List Int) (i0 k0 : Nat) (M : List (List Int)) : Prop :=
  Sq it.length M ∧ ∀ i k, i < it.length → k < it.length → ent M i k = if i < i0 ∨ (i = i0 ∧ k < k0) then ent m (it.getD i 0).toNat (it.getD k 0).toNat else 0
theorem subM_len (m : List (List Int)) (it : List Int) : (subM m it).length = it.length := by unfold subM; rw [List.length_map]
theorem subM_row {m : List (List Int)} {it : List Int} {i : Nat} (hi : i < it.length) : (subM m it).getD i [] = it.map fun y => ent m (it.getD i 0).toNat y.toNat := by
  rw [getD_getElem (by rw [subM_len]; exact hi)]
  unfold subM
  rw [List.getElem_map, getD_getElem hi]
theorem subM_ent {m : List (List Int)} {it : List Int} {i k : Nat} (hi : i < it.length) (hk : k < it.length) : ent (subM m it) i k = ent m (it.getD i 0).toNat (it.getD k 0).toNat := by
  show ((subM m it).getD i []).getD k 0 = _
  rw [subM_row hi, getD_getElem (by rw [List.length_map]; exact hk), List.getElem_map, getD_getElem hk]
theorem rows_ext {n : Nat} {A B : List (List Int)} (hA : Sq n A) (hB : Sq n B) (h : ∀ i k, i < n → k < n → ent A i k = ent B i k) : A = B := by
  apply List.ext_getElem (hA.1.trans hB.1.symm)
  intro i h1 h2
  have hi : i < n := by rw [← hA.1]; exact h1
  have e1 := hA.2 i hi
  have e2 := hB.2 i hi
  rw [getD_getElem h1] at e1
  rw [getD_getElem h2] at e2
  apply List.ext_getElem (e1.trans e2.symm)
  intro k k1 k2
  have := h i k hi (by omega)
  unfold ent at this
  rw [getD_getElem h1, getD_getElem h2, getD_getElem k1, getD_getElem k2] at this
  exact this
theorem subM_sq (m : List (List Int)) (it : List Int) : Sq it.length (subM m it) := ⟨subM_len m it, fun i hi => by rw [subM_row hi, List.length_map]⟩
theorem SubTo.start (m : List (List Int)) (it : List Int) : SubTo m it 0 0 (sqM it.length) := ⟨sqM_sq _, fun i k hi hk => by rw [sqM_ent hi hk, if_neg (by omega)]⟩
theorem SubTo.step {m : List (List Int)} {it : List Int} {i k : Nat} {M : List (List Int)} (h : SubTo m it i k M) (hi : i < it.length) (hk : k < it.length) : SubTo m it i (k + 1) (setE M i k (ent m (it.getD i 0).toNat (it.getD k 0).toNat)) := by
  refine ⟨h.1.set hi _, fun a b ha hb => ?_⟩
  rw [ent_set h.1 hi hk]
  by_cases e : a = i ∧ b = k
  · obtain ⟨rfl, rfl⟩ := e
    rw [if_pos ⟨rfl, rfl⟩, if_pos (.inr ⟨rfl, by omega⟩)]
  · rw [if_neg e, h.2 a b ha hb]
    by_cases h1 : a < i ∨ (a = i ∧ b < k)
    · rw [if_pos h1, if_pos (by omega)]
    · rw [if_neg h1, if_neg (by omega)]
theorem SubTo.next {m : List (List Int)} {it : List Int} {i : Nat} {M : List (List Int)} (h : SubTo m it i it.length M) : SubTo m it (i + 1) 0 M :=
  ⟨h.1, fun a b ha hb => by
    rw [h.2 a b ha hb]
    by_cases h1 : a < i ∨ (a = i ∧ b < it.length)
    · rw [if_pos h1, if_pos (by omega)]
    · rw [if_neg h1, if_neg (by omega)]⟩
theorem SubTo.fin {m : List (List Int)} {it : List Int} {M : List (List Int)} (h : SubTo m it it.length 0 M) : M = subM m it :=
  rows_ext h.1 (subM_sq m it) fun i k hi hk => by rw [h.2 i k hi hk, if_pos (.inl hi), subM_ent hi hk]
/-- chosen items: numbers below n, ascending -/
structure ItemsB (n : Nat) (it : List Int) : Prop where
  n1 : 1 ≤ it.length
  bd : ∀ i, i < it.length → 0 ≤ it.getD i 0 ∧ it.getD i 0 < n
  asc : ∀ i j, i < j → j < it.length → it.getD i 0 < it.getD j 0
theorem ItemsB.len {n : Nat} {it : List Int} (h : ItemsB n it) : it.length ≤ n := by
  have key : ∀ j, j < it.length → (j : Int) ≤ it.getD j 0 := by
    intro j
    induction j with
    | zero => intro hj; exact (h.bd 0 hj).1
    | succ j ih =>
      intro hj
      have := ih (by omega)
      have := h.asc j (j + 1) (by omega) hj
      omega
  by_cases h0 : it.length = 0
  · omega
  · have := key (it.length - 1) (by omega)
    have := h.bd (it.length - 1) (by omega)
    omega
theorem subM_wm {m : List (List Int)} (hm : WM m) {it : List Int} (h : ItemsB m.length it) : WM (subM m it) := by
  have hl := h.len
  have h8 := hm.n8
  have hn : ∀ i, i < it.length → (it.getD i 0).toNat < m.length := fun i hi => by have := h.bd i hi; omega
  refine ⟨by rw [subM_len]; exact h.n1, by rw [subM_len]; omega, fun i hi => ?_, fun i k hi hk => ?_, fun i k hi hk => ?_, fun i hi => ?_⟩
  · rw [subM_len] at hi ⊢; exact (subM_sq m it).2 i hi
  · rw [subM_len] at hi hk; rw [subM_ent hi hk]; exact hm.bd _ _ (hn i hi) (hn k hk)
  · rw [subM_len] at hi hk; rw [subM_ent hi hk, subM_ent hk hi]; exact hm.sym _ _ (hn i hi) (hn k hk)
  · rw [subM_len] at hi; rw [subM_ent hi hi]; exact hm.diag _ (hn i hi)

/-! ### Constraints -/
def restrC1 (it : List Int) (c : Constraint) : Option Constraint := if 0 ≤ idxI c.a it ∧ 0 ≤ idxI c.b it then some ⟨idxI c.a it, idxI c.b it, c.same⟩ else none
def restrC (l : List Constraint) (it : List Int) : List Constraint := l.filterMap (restrC1 it)
theorem restrC_take {l : List Constraint} {it : List Int} {k : Nat} (hk : k < l.length) : restrC (l.take (k + 1)) it = if 0 ≤ idxI l[k].a it ∧ 0 ≤ idxI l[k].b it then restrC (l.take k) it ++ [⟨idxI l[k].a it, idxI l[k].b it, l[k].same⟩] else restrC (l.take k) it := by
  unfold restrC
  rw [List.take_succ_eq_append_getElem hk, List.filterMap_append]
  have e : restrC1 it l[k] = if 0 ≤ idxI l[k].a it ∧ 0 ≤ idxI l[k].b it then some ⟨idxI l[k].a it, idxI l[k].b it, l[k].same⟩ else none := rfl
  by_cases h : 0 ≤ idxI l[k].a it ∧ 0 ≤ idxI l[k].b it
  · rw [if_pos h] at e ⊢
    simp [e]
  · rw [if_neg h] at e ⊢
    simp [e]
theorem restrC_len (l : List Constraint) (it : List Int) : (restrC l it).length ≤ l.length := List.length_filterMap_le _ _
theorem ItemsB.inj {n : Nat} {it : List Int} (h : ItemsB n it) {i j : Nat} (hi : i < it.length) (hj : j < it.length) (e : it.getD i 0 = it.getD j 0) : i = j := by
  by_cases h1 : i < j
  · have := h.asc i j h1 hj; omega
  · by_cases h2 : j < i
    · have := h.asc j i h2 hi; omega
    · omega
theorem restr_mem {l : List Constraint} {it : List Int} {d : Constraint} : d ∈ restrC l it ↔ ∃ c ∈ l, ∃ i k : Nat, i < it.length ∧ k < it.length ∧ idxI c.a it = i ∧ idxI c.b it = k ∧ it.getD i 0 = c.a ∧ it.getD k 0 = c.b ∧ d = ⟨i, k, c.same⟩ := by
  unfold restrC
  rw [List.mem_filterMap]
  constructor
  · rintro ⟨c, hc, h⟩
    refine ⟨c, hc, ?_⟩
    unfold restrC1 at h
    split at h
    · rename_i hh
      rcases idxI_cases c.a it with ⟨e, _⟩ | ⟨i, hi, e1, e2, _⟩
      · omega
      · rcases idxI_cases c.b it with ⟨e, _⟩ | ⟨k, hk, f1, f2, _⟩
        · omega
        · injection h with h
          exact ⟨i, k, hi, hk, e1, f1, e2, f2, by rw [← h, e1, f1]⟩
    · cases h
  · rintro ⟨c, hc, i, k, _, _, e1, f1, _, _, rfl⟩
    refine ⟨c, hc, ?_⟩
    unfold restrC1
    rw [e1, f1, if_pos (by omega)]
theorem restr_con {n : Nat} {l : List Constraint} {it : List Int} (h : ItemsB n it) (hn : n ≤ 8) (hl : areConB n l = true) : areConB it.length (restrC l it) = true := by
  obtain ⟨h1, h8, h10, h4⟩ := areCon_iff.1 hl
  have := h.len
  refine areCon_iff.2 ⟨by have := h.n1; omega, by omega, Nat.le_trans (restrC_len l it) h10, fun d hd => ?_⟩
  obtain ⟨c, hc, i, k, hi, hk, e1, f1, e2, f2, rfl⟩ := restr_mem.1 hd
  have hcl := h4 c hc
  dsimp only
  refine ⟨by omega, by omega, by omega, by omega, ?_⟩
  by_cases hik : i < k
  · omega
  · by_cases hki : k < i
    · have := h.asc k i hki hi; omega
    · have : i = k := by omega
      subst this
      omega
end Go.Proofs.YtidchfncfcckiaaGreat

namespace Go.Proofs.YtidchfncfcckiaaGreat
open Go.RowKit

set_option maxHeartbeats 400000 in
theorem impl_IsPartition (v : Value) (l : List Int) (w : World) (h : Sl intR w v l) :
    Calls Tryz.prog 115 #[v] w fun e w2 => e = .returned (.bool (partB l)) ∧ w = w2 := by
  obtain ⟨A, cap, rfl, hm⟩ := h.form
  have HLEN := hid (fun (W : World) => impl_within (l.length : Int) 1 8 W)
  go_enter Tryz.func115, Tryz.ntmps115
  go_wp2
  go_loop [3, 8] (fun nx i => ∃ k : Nat, k ≤ l.length ∧ i = .int .i64 k ∧ RG (l.take k) ∧ nx = .int .i64 (nextOf (l.take k))) (fun _ i => l.length - (intOf i).toNat)
  case atStart => exact ⟨0, Nat.zero_le _, rfl, RG.nil, rfl⟩
  case round =>
    obtain ⟨k, hk, rfl, hg, rfl⟩ := hrel
    have HG := hid hg
    have hb := RG.next_le hg hk
    clear hg
    by_cases hlt : k < l.length
    · obtain ⟨b, off, rfl, hi, hc⟩ := h.int hlt
      have HN := hid (nextOf_take hlt)
      have HB := hid (fun hn => partB_no (RG.bad hlt hn))
      have HS := hid (fun h0 h1 => RG.step hlt HG.out h0 h1)
      obtain ⟨nx, hnx⟩ : ∃ nx, nx = nextOf (l.take k) := ⟨_, rfl⟩
      rw [← hnx] at HN HB HS hb ⊢
      obtain ⟨x, hx⟩ : ∃ x, x = l[k] := ⟨_, rfl⟩
      rw [← hx] at HN HB HS hi hc
      clear hnx hx HG
      have HI := hid hi
      have HW := hid (fun (W : World) => impl_within x 0 nx W)
      by_cases hin : 0 ≤ x ∧ x ≤ nx
      · have hw : inB x 0 nx = true := by unfold inB; rw [decide_eq_true_eq]; exact hin
        rw [hw] at HW
        have HIN := hid hin
        clear hw hi
        go_wp2_with (go_at_call 107; refine (HW.out _).mono ?_; rintro e w3 ⟨rfl, rfl⟩)
        go_round
        case rel => exact ⟨k + 1, by omega, by go_num, HS.out HIN.out.1 HIN.out.2, by rw [HN.out]; congr 1; omega⟩
        case measure => simp [intOf]; omega
      · have hw : inB x 0 nx = false := by unfold inB; rw [decide_eq_false_iff_not]; exact hin
        rw [hw] at HW
        have HP := hid (HB.out hin)
        clear hw hin hi
        go_wp2_with (go_at_call 107; refine (HW.out _).mono ?_; rintro e w3 ⟨rfl, rfl⟩)
        go_ret
        exact ⟨ret_bool HP.out.symm, rfl⟩
    · have hkl : k = l.length := by omega
      subst hkl
      have HP := hid (partB_rg (by have := HG.out; rwa [List.take_length] at this))
      clear hb
      go_wp2_with (go_at_call 107; refine (HLEN.out _).mono ?_; rintro e w3 ⟨rfl, rfl⟩)
      go_ret
      exact ⟨ret_bool (by rw [HP.out]; unfold inB; rw [Bool.eq_iff_iff]; simp only [Bool.and_eq_true, decide_eq_true_eq]; omega), rfl⟩

set_option maxHeartbeats 400000 in
theorem impl_arePartitions (v u : Value) (a b : List Int) (w : World) (h : Sl intR w v a) (k : Sl intR w u b) :
    Calls Tryz.prog 68 #[v, u] w fun e w2 => e = .returned (.bool (twoC a b)) ∧ w = w2 := by
  have HA := hid (impl_IsPartition v a w h)
  have HB := hid (impl_IsPartition u b w k)
  obtain ⟨A, cap, rfl, hm⟩ := h.form
  obtain ⟨B, cap2, rfl, hm2⟩ := k.form
  have HV := hid (show twoC a b = (partB a && (partB b && decide (a.length = b.length))) from rfl)
  obtain ⟨p, hp⟩ : ∃ p, p = partB a := ⟨_, rfl⟩
  obtain ⟨q, hq⟩ : ∃ q, q = partB b := ⟨_, rfl⟩
  rw [← hp] at HA HV
  rw [← hq] at HB HV
  clear hp hq
  cases p with
  | false =>
    go_enter Tryz.func68, Tryz.ntmps68
    go_wp2_with fail
    refine (HA.out).mono ?_
    rintro e w2 ⟨rfl, rfl⟩
    go_wp2
    go_ret
    exact ⟨ret_bool (by rw [HV.out]; rfl), rfl⟩
  | true =>
    cases q with
    | false =>
      go_enter Tryz.func68, Tryz.ntmps68
      go_wp2_with fail
      refine (HA.out).mono ?_
      rintro e w2 ⟨rfl, rfl⟩
      go_wp2_with fail
      refine (HB.out).mono ?_
      rintro e w2 ⟨rfl, rfl⟩
      go_wp2
      go_ret
      exact ⟨ret_bool (by rw [HV.out]; rfl), rfl⟩
    | true =>
      have HE := hid (show ((a.length : Int) == (b.length : Int)) = decide (a.length = b.length) from by rw [Bool.eq_iff_iff, beq_iff_eq, decide_eq_true_eq]; omega)
      go_enter Tryz.func68, Tryz.ntmps68
      go_wp2_with fail
      refine (HA.out).mono ?_
      rintro e w2 ⟨rfl, rfl⟩
      go_wp2_with fail
      refine (HB.out).mono ?_
      rintro e w2 ⟨rfl, rfl⟩
      go_wp2
      go_ret
      exact ⟨ret_bool (by rw [HV.out, ← HE.out]; rfl), rfl⟩

theorem seen_take {l : List Int} {k : Nat} (hk : k < l.length) : seenL (l.take (k + 1)) = seenSt (seenL (l.take k)) l[k] ∧ canonL (l.take (k + 1)) = canonL (l.take k) ++ [idxI l[k] (seenSt (seenL (l.take k)) l[k])] := by
  rw [List.take_succ_eq_append_getElem hk]
  exact ⟨seenL_snoc _ _, canonL_snoc _ _⟩
theorem seenL_len : ∀ (n : Nat) (l : List Int), l.length = n → (seenL l).length ≤ n
  | 0, l, h => by
    have : l = [] := List.eq_nil_of_length_eq_zero h
    subst this
    exact Nat.le_refl _
  | n + 1, l, h => by
    rcases List.eq_nil_or_concat l with rfl | ⟨p, x, rfl⟩
    · simp at h
    · rw [List.concat_eq_append] at h ⊢
      have := seenL_len n p (by simpa using h)
      rw [seenL_snoc]
      unfold seenSt
      split
      · rw [List.length_append, List.length_singleton]; omega
      · omega
/-- a list in a row of its own stands while other blocks are written -/
theorem Bld.stayI {w w2 : World} {base : Nat} {e : TypeId} {v : Value} {xs : List Int} (h : Bld intO w base e v xs []) (hk : ∀ b, v.ownBlock = some b → w2.heap[b]? = w.heap[b]?) : Bld intO w2 base e v xs [] := by
  obtain ⟨cs, h1, h2, h3, h4, h5⟩ := h
  refine ⟨cs, ⟨h1.1, ?_⟩, h2.keep (fun b hb => by cases hb), h3, h4, h5⟩
  rcases h1.2 with h | ⟨g', cap, cur, rfl, hb, hh, hr⟩
  · exact .inl h
  · exact .inr ⟨g', cap, cur, rfl, hb, (hk g' rfl).trans hh, hr⟩

set_option maxHeartbeats 1000000 in
set_option maxRecDepth 20000 in
theorem impl_CanonicalLabels (v : Value) (l : List Int) (w : World) (h : Sl intR w v l) (hl : l.length ≤ 1048576) :
    Calls Tryz.prog 36 #[v] w fun e w2 => ∃ v2 F, e = .returned v2 ∧ OwnSl intO w2 v2 (canonL l) F ∧ NewF w F ∧ Ext w w2 := by
  obtain ⟨A, cap, rfl, hm⟩ := h.form
  go_enter Tryz.func36, Tryz.ntmps36
  go_wp2
  go_loopw [3, 4, 10] (fun t3 t4 i wr => ∃ k : Nat, k ≤ l.length ∧ i = .int .i64 k ∧ Bld intO wr w.heap.size 3 t3 (seenL (l.take k)) [] ∧ Bld intO wr w.heap.size 3 t4 (canonL (l.take k)) [] ∧ (∀ b, t3.ownBlock = some b → t4.ownBlock ≠ some b) ∧ Ext w wr) (fun _ _ i _ => l.length - (intOf i).toNat)
  case atStart => exact ⟨0, Nat.zero_le _, rfl, Bld.nil _ _ _, Bld.nil _ _ _, (fun b hb => by cases hb), Ext.refl _⟩
  case round =>
    obtain ⟨k, hk, rfl, hB3, hB4, hD, hx⟩ := hrel
    by_cases hlt : k < l.length
    · obtain ⟨b, off, rfl, hi, hc⟩ := (h.mono hx).int hlt
      obtain ⟨e1, e2⟩ := seen_take hlt
      have hsl := seenL_len _ (l.take k) rfl
      have hcl := canonL_len (l.take k)
      rw [List.length_take] at hsl hcl
      obtain ⟨S, hS⟩ : ∃ S, S = seenL (l.take k) := ⟨_, rfl⟩
      obtain ⟨C, hC⟩ : ∃ C, C = canonL (l.take k) := ⟨_, rfl⟩
      rw [← hS] at hB3 e1 e2 hsl
      rw [← hC] at hB4 e2 hcl
      obtain ⟨x, hxe⟩ : ∃ x, x = l[k] := ⟨_, rfl⟩
      rw [← hxe] at hi hc e1 e2
      have HIX := hid (fun (W : World) (u : Value) (q : Sl intR W u S) => slices_Index u S x W q)
      have hbd := idxI_bd x S
      have hil := @idxI_last x S
      have hng := @idxI_neg x S
      obtain ⟨ix, hix⟩ : ∃ ix, ix = idxI x S := ⟨_, rfl⟩
      rw [← hix] at hbd hng HIX
      have hsC : C.length + 1 ≤ 1099511627776 := by omega
      have hsS : S.length + 1 ≤ 1099511627776 := by omega
      have HSC := hid (And.intro hsC hsS)
      by_cases hneg : ix < 0
      · have HE := hid (show seenL (l.take (k + 1)) = S ++ [x] ∧ canonL (l.take (k + 1)) = C ++ [(S.length : Int)] from by
          have hn := hng.1 hneg
          have e9 : seenSt S x = S ++ [x] := by unfold seenSt; rw [if_pos (by rw [← hix]; exact hneg)]
          rw [e1, e2, e9]
          exact ⟨rfl, by rw [hil hn]⟩)
        have HB3 := hid hB3
        have HB4 := hid hB4
        have hsl3 := hB3.sl
        obtain ⟨A3, c3, e3, _⟩ := hsl3.form
        subst e3
        have HXS := hid (show I64 x ∧ I64 (S.length : Int) from ⟨hi, by unfold I64; omega⟩)
        clear e1 e2 hsl hcl hS hC hxe hil hng hix hi hsC hsS hB3 hB4
        go_wp2_with (first | (go_at_call 87; refine (HIX.out _ _ hsl3).mono ?_; rintro e w3 ⟨rfl, rfl⟩) | (at_builtin; refine wpList_app1h (R := intO) elemInt (by decide) rfl _ _ rfl HB3.out rfl _ 1 rfl (by simp) (one_int _) (y := x) (own_int _ _ HXS.out.1) fresh_nil HSC.out.2 (by decide) hx.size ?_; intro v9 w9 hB9 hE9 hA9; have hx9 := hE9 w (Nat.le_refl _) hx; have hB49 := HB4.out.stayI (w2 := w9) (fun b hb => hA9.keep b (HB4.out.lt.2 b hb).1 fun e => hD b e hb)) | (at_builtin; refine wpList_app1h (R := intO) elemInt (by decide) rfl _ _ rfl hB49 rfl _ 1 rfl (by simp) (one_int _) (y := (S.length : Int)) (own_int _ _ HXS.out.2) fresh_nil HSC.out.1 (by decide) hx9.size ?_; intro v8 w8 hB8 hE8 hA8))
        go_roundw
        case rel => exact ⟨k + 1, by omega, by go_num, by rw [HE.out.1]; exact hB9.stayI fun b hb => hA8.keep b (hB9.lt.2 b hb).1 fun e => (hA9.own b hb).elim (fun e3 => hD b e3 e) fun e3 => by have := (HB4.out.lt.2 b e).1; omega, by rw [HE.out.2]; exact hB8, (fun b hb => by
          rcases hA9.own b hb with e | e
          · exact fun e2 => (hA8.own b e2).elim (fun e3 => hD b e e3) fun e3 => by have := (HB3.out.lt.2 b e).1; have := hA9.size; omega
          · exact fun e2 => (hA8.own b e2).elim (fun e3 => by have := (HB4.out.lt.2 b e3).1; omega) fun e3 => by have := (hB9.lt.2 b hb).1; omega), hE8 w (Nat.le_refl _) hx9⟩
        case measure => simp [intOf]; omega
      · have hpos : 0 ≤ ix := by omega
        have HE := hid (show seenL (l.take (k + 1)) = S ∧ canonL (l.take (k + 1)) = C ++ [ix] from by
          have e9 : seenSt S x = S := by unfold seenSt; rw [if_neg (by rw [← hix]; exact hneg)]
          rw [e1, e2, e9, ← hix]
          exact ⟨rfl, rfl⟩)
        have HB3 := hid hB3
        have HB4 := hid hB4
        have hsl3 := hB3.sl
        obtain ⟨A3, c3, e3, _⟩ := hsl3.form
        subst e3
        have HXS := hid (show I64 ix from by have := hi; unfold I64 at *; omega)
        clear e1 e2 hsl hcl hS hC hxe hil hng hix hi hsC hsS hB3 hB4 hneg
        go_wp2_with (first | (go_at_call 87; refine (HIX.out _ _ hsl3).mono ?_; rintro e w3 ⟨rfl, rfl⟩) | (at_builtin; refine wpList_app1h (R := intO) elemInt (by decide) rfl _ _ rfl HB4.out rfl _ 1 rfl (by simp) (one_int _) (y := ix) (own_int _ _ HXS.out) fresh_nil HSC.out.1 (by decide) hx.size ?_; intro v8 w8 hB8 hE8 hA8))
        go_roundw
        case rel => exact ⟨k + 1, by omega, by go_num, by rw [HE.out.1]; exact HB3.out.stayI fun b hb => hA8.keep b (HB3.out.lt.2 b hb).1 fun e => hD b hb e, by rw [HE.out.2]; exact hB8, (fun b hb e2 => (hA8.own b e2).elim (fun e3 => hD b hb e3) fun e3 => by have := (HB3.out.lt.2 b hb).1; omega), hE8 w (Nat.le_refl _) hx⟩
        case measure => simp [intOf]; omega
    · have hkl : k = l.length := by omega
      subst hkl
      rw [List.take_length] at hB4
      obtain ⟨F, q1, q2, q3⟩ := hB4.done
      clear hB3 hB4
      go_wp2
      go_ret
      exact ⟨_, F, rfl, q1, ⟨q2, q3⟩, hx⟩
end Go.Proofs.YtidchfncfcckiaaGreat

namespace Go.Proofs.YtidchfncfcckiaaGreat
open Go.RowKit

theorem Ext.setRowC {w0 w : World} (h : Ext w0 w) {g : Nat} (hg : w0.heap.size ≤ g) (c : Array Value) : Ext w0 (w.setRow g c) := by
  refine ⟨h.os, h.tape, h.output, ?_, fun k hk => ?_⟩
  · have := h.size
    simpa [World.setRow] using this
  · rw [← h.block hk]
    simp only [World.setRow, Array.getElem?_modify]
    rw [if_neg (by omega)]
theorem wp_copyC {P : Program} (w : World) {o : Oper} {a : Act} {K : Act → World → Prop} {Q : Exit → Act → World → Prop} (d s : Operand) (t t' : TypeId)
    (ho : o.op = .call { callee := .builtin .copy, args := #[d, s], argTypes := #[t, t'] }) (v u : Value) (hd : a.eval d = v) (hs : a.eval s = u) {v' : Value} {w' : World}
    (hr : (Builtin.copy_ #[t, t'] o.type #[v, u]).run P w = .ok v' w') (h : K (a.put o.dst v') w') : o.wp P a w K Q := by
  unfold Oper.wp execOp
  simp only [ho, resolve, invoke, builtin, Sem.run_bind, Sem.run_pure, Result.andThen_ok, List.map_toArray, List.map_cons, List.map_nil, hd, hs, hr]
  exact h
theorem wpList_copyC {P : Program} (w : World) {ops : Array Oper} {rest : List Oper} {o : Oper} {a : Act} {Q : Exit → Act → World → Prop} (hgd : o.guard = none) (d s : Operand) (t t' : TypeId)
    (ho : o.op = .call { callee := .builtin .copy, args := #[d, s], argTypes := #[t, t'] }) (v u : Value) (hd : a.eval d = v) (hs : a.eval s = u) {v' : Value} {w' : World}
    (hr : (Builtin.copy_ #[t, t'] o.type #[v, u]).run P w = .ok v' w') (h : wpList P ops Q rest (a.put o.dst v') w') : wpList P ops Q (o :: rest) a w :=
  wpList_plain hgd fun _ hK => wp_copyC w d s t t' ho v u hd hs hr (hK _ _ h)
theorem step_copyC {P : Program} {ops : Array Oper} {o : Oper} {a : Act} {w : World} {K : Act → World → Prop} {Q : Exit → Act → World → Prop} {E : Prop}
    (hg : o.guard = none) (d x : Operand) (dT sT : TypeId) (hop : o.op = Op.call { callee := Callee.builtin Builtin.copy, args := #[d, x], argTypes := #[dT, sT] })
    (v u : Value) (hd : a.eval d = v) (hx : a.eval x = u) {v' : Value} {w' : World} (hr : (Builtin.copy_ #[dT, sT] o.type #[v, u]).run P w = .ok v' w') (hK : K (a.put o.dst v') w') :
    if Region.wanted o (yielded ops a.tmps) = true then Oper.wp P o a w K Q else E := by
  have hw : Region.wanted o (yielded ops a.tmps) = true := by simp [Region.wanted, hg]
  rw [if_pos hw]
  exact wp_copyC w d x dT sT hop v u hd hx hr hK

set_option maxHeartbeats 400000 in
theorem bits_Mul64_1 (n : Nat) (hn : n ≤ 8) (w : World) :
    Calls Tryz.prog 147 #[.int .u64 1, .int .u64 n] w fun e w2 => e = .returned (.tuple #[.int .u64 0, .int .u64 n]) ∧ w = w2 := by
  have h : n = 0 ∨ n = 1 ∨ n = 2 ∨ n = 3 ∨ n = 4 ∨ n = 5 ∨ n = 6 ∨ n = 7 ∨ n = 8 := by omega
  rcases h with rfl | rfl | rfl | rfl | rfl | rfl | rfl | rfl | rfl
  all_goals
    go_enter Tryz.func147, Tryz.ntmps147
    go_wp2
    go_ret2
    exact ⟨rfl, rfl⟩
set_option maxHeartbeats 400000 in
theorem bits_Mul_1 (n : Nat) (hn : n ≤ 8) (w : World) :
    Calls Tryz.prog 144 #[.int .u64 1, .int .u64 n] w fun e w2 => e = .returned (.tuple #[.int .u64 0, .int .u64 n]) ∧ w = w2 := by
  have HM := hid (bits_Mul64_1 n hn)
  go_enter Tryz.func144, Tryz.ntmps144
  go_wp2_with fail
  refine (HM.out _).mono ?_
  rintro e w2 ⟨rfl, rfl⟩
  go_wp2
  go_ret2
  exact ⟨rfl, rfl⟩

set_option maxHeartbeats 1000000 in
set_option maxRecDepth 20000 in
theorem slices_Repeat_i (x : Int) (n g c : Nat) (w : World) (h1 : 1 ≤ n) (h8 : n ≤ 8) (hx : I64 x) (hc : w.cell? ⟨g, 0, none⟩ = some (.int .i64 x)) :
    Calls Tryz.prog 138 #[.slice (some ⟨g, 0, none⟩) 1 c, .int .i64 n] w fun e w2 => ∃ v2 F, e = .returned v2 ∧ OwnSl intO w2 v2 (List.replicate n x) F ∧ NewF w F ∧ Ext w w2 := by
  obtain ⟨i1, hi1, hz3, hz4, hz5⟩ := info_parts infoInt
  have hmk1 := run_mk (P := Tryz.prog) 28 3 i1 _ [.int .i64 0] 8 Tryz.underlying28 hi1 hz3 rfl hz4 hz5 n (by omega) (by omega)
  rw [flat_rep] at hmk1
  obtain ⟨Z, hZ⟩ : ∃ Z, Z = (List.replicate n (Value.int .i64 0)).toArray := ⟨_, rfl⟩
  rw [← hZ] at hmk1
  have HZ := hid (show Z.toList = List.replicate n (Value.int .i64 0) from by rw [hZ])
  have HM := hid (bits_Mul_1 n h8)
  have hsz : (Tryz.prog.info? 3).map (·.size) = some 1 := by rw [hi1]; simp [hz4]
  have bZ : Blk (w.alloc (.cells Z 3)) w.heap.size 3 Z.toList := Blk.new w 3 Z
  rw [HZ.out] at bZ
  have hcp1 := run_copy_row Tryz.prog (w.alloc (.cells Z 3)) 28 28 3 3 w.heap.size 0 n n ⟨g, 0, none⟩ 1 c _ 3 [Value.int .i64 x] Tryz.underlying28 hsz bZ (by simp only [List.length_singleton, Nat.min_def]; split <;> omega)
    (fun j v hj => by
      have hj0 : j = 0 := by have := (List.getElem?_eq_some_iff.1 hj).1; simp at this; omega
      subst hj0
      simp at hj
      subst hj
      rw [add_eq]
      exact ((Ext.refl w).alloc _).cell hc) (by simp; omega) (by simp [Value.oneCell'])
  obtain ⟨W1, hW1⟩ : ∃ W1, W1 = (w.alloc (.cells Z 3)).setRow w.heap.size (((List.replicate n (Value.int .i64 0)).toArray.toList.take 0 ++ [Value.int .i64 x] ++ (List.replicate n (Value.int .i64 0)).toArray.toList.drop (0 + [Value.int .i64 x].length)).toArray) := ⟨_, rfl⟩
  have HB1 := hid (show Blk W1 w.heap.size 3 (List.replicate 1 (Value.int .i64 x) ++ List.replicate (n - 1) (Value.int .i64 0)) from by
    have h9 := setRow_heap _ _ _ (((List.replicate n (Value.int .i64 0)).toArray.toList.take 0 ++ [Value.int .i64 x] ++ (List.replicate n (Value.int .i64 0)).toArray.toList.drop (0 + [Value.int .i64 x].length)).toArray) _ _ bZ
    rw [← hW1] at h9
    simpa [Blk] using h9)
  have HX1 := hid (show Ext w W1 from by rw [hW1]; exact Ext.setRowC ((Ext.refl w).alloc _) (Nat.le_refl _) _)
  rw [← hW1] at hcp1
  have HSZ := hid hsz
  have HXX := hid hx
  have HN := hid (And.intro h1 h8)
  have hn3 : (0 : Int) ≤ (n : Int) := by omega
  clear hi1 hz3 hz4 hz5 hZ hW1 bZ hsz hx hc
  go_enter Tryz.func138, Tryz.ntmps138
  go_wp2_with fail
  refine (HM.out _).mono ?_
  rintro e w2 ⟨rfl, rfl⟩
  go_wp2_with (at_builtin; refine wpList_copyC _ rfl _ _ 28 28 rfl _ _ rfl rfl hcp1 ?_)
  go_loopw [8] (fun t wr => ∃ k : Nat, 1 ≤ k ∧ k ≤ n ∧ t = .int .i64 k ∧ Blk wr w.heap.size 3 (List.replicate k (Value.int .i64 x) ++ List.replicate (n - k) (Value.int .i64 0)) ∧ Ext w wr) (fun t _ => n - (intOf t).toNat)
  case atStart => exact ⟨1, Nat.le_refl _, HN.out.1, rfl, HB1.out, HX1.out⟩
  case round =>
    clear hmk1 hcp1
    obtain ⟨k, hk1, hk, rfl, hB, hx⟩ := hrel
    by_cases hlt : k < n
    · obtain ⟨q, hq⟩ : ∃ q, q = min k (n - k) := ⟨_, rfl⟩
      have hq1 : 1 ≤ q ∧ q ≤ k ∧ k + q ≤ n := by omega
      have hcell := hB.cells.1
      have hcp := run_copy_row Tryz.prog wr.drew 28 28 3 3 w.heap.size k (n - k) (n - k) ⟨w.heap.size, 0, none⟩ k n _ 3 (List.replicate q (Value.int .i64 x)) Tryz.underlying28 HSZ.out hB (by rw [List.length_replicate]; show _ = min _ _; omega)
        (fun j v hj => by
          obtain ⟨hj1, hj2⟩ := List.getElem?_eq_some_iff.1 hj
          rw [List.length_replicate] at hj1
          rw [List.getElem_replicate] at hj2
          subst hj2
          rw [add_eq, Nat.zero_add]
          show wr.cell? _ = _
          rw [hcell, List.getElem?_append_left (by rw [List.length_replicate]; omega), List.getElem?_replicate, if_pos (by omega)]) (by simp; omega) (by simp [Value.oneCell'])
      rw [List.length_replicate] at hcp
      obtain ⟨W2, hW2⟩ : ∃ W2, W2 = wr.drew.setRow w.heap.size (((List.replicate k (Value.int .i64 x) ++ List.replicate (n - k) (Value.int .i64 0)).toArray.toList.take k ++ List.replicate q (Value.int .i64 x) ++ (List.replicate k (Value.int .i64 x) ++ List.replicate (n - k) (Value.int .i64 0)).toArray.toList.drop (k + q)).toArray) := ⟨_, rfl⟩
      have HB2 := hid (show Blk W2 w.heap.size 3 (List.replicate (k + q) (Value.int .i64 x) ++ List.replicate (n - (k + q)) (Value.int .i64 0)) from by
        have h9 := setRow_heap _ _ _ (((List.replicate k (Value.int .i64 x) ++ List.replicate (n - k) (Value.int .i64 0)).toArray.toList.take k ++ List.replicate q (Value.int .i64 x) ++ (List.replicate k (Value.int .i64 x) ++ List.replicate (n - k) (Value.int .i64 0)).toArray.toList.drop (k + q)).toArray) _ _ (show wr.drew.heap[w.heap.size]? = _ from hB)
        rw [← hW2] at h9
        unfold Blk
        rw [h9]
        congr 3
        rw [List.take_append_of_le_length (by simp), List.take_of_length_le (by simp), List.drop_append]
        simp [List.replicate_append_replicate]
        omega)
      have HX2 := hid (show Ext w W2 from by rw [hW2]; exact Ext.setRowC hx.drew (Nat.le_refl _) _)
      rw [← hW2] at hcp
      have hb2 : ¬ (n = k) := by omega
      have hkn : (k : Int) ≤ (n : Int) := by omega
      have hkn0 : (0 : Int) ≤ (k : Int) := by omega
      have mixed : Tryz.prog.follows .mixedOrders = true := by kernel_rfl
      have hw1 : IntKind.i64.wrap ((k : Int) + (q : Int)) = (k : Int) + (q : Int) := by rw [IntKind.wrap_i64]; omega
      clear hcell hW2 hB hx hq
      go_wp2_with fail
      go_region_law_o (refine step_copyC rfl _ _ 28 28 rfl (.slice (some ⟨w.heap.size, k, none⟩) (n - k) (n - k)) (.slice (some ⟨w.heap.size, 0, none⟩) k n) (by simp [Act.eval, Act.put]) (by simp [Act.eval, Act.put]) hcp ?_)
      go_simp
      all_goals
        go_roundw
        case rel => exact ⟨_, _, _, _, _, _, _, _, _, _, _, _, _, _, ⟨k + q, by omega, by omega, by go_num, HB2.out, HX2.out⟩, rfl⟩
        case measure => simp [intOf]; omega
    · have hkn : k = n := by omega
      subst hkn
      rw [Nat.sub_self, List.replicate_zero, List.append_nil] at hB
      have hown := OwnSl.of_blk (R := intO) (xs := List.replicate k x) hB (by rw [List.length_replicate]; unfold maxLen; omega) (by rw [← List.map_replicate]; exact ints_own _ (fun y hy => by rw [List.eq_of_mem_replicate hy]; exact HXX.out) wr)
      rw [List.length_replicate] at hown
      have HO := hid hown
      clear hB hown
      go_wp2
      go_ret
      exact ⟨_, [w.heap.size], rfl, HO.out, ⟨by simp, fun b hb => by rw [List.mem_singleton] at hb; omega⟩, hx⟩
end Go.Proofs.YtidchfncfcckiaaGreat

namespace Go.Proofs.YtidchfncfcckiaaGreat
open Go.RowKit

/-- all that there was in w0 stands but the blocks bs -/
def KeepB (w0 w : World) (bs : List Nat) : Prop := w0.heap.size ≤ w.heap.size ∧ ∀ b, b < w0.heap.size → b ∉ bs → w.heap[b]? = w0.heap[b]?
theorem KeepB.refl (w : World) (bs : List Nat) : KeepB w w bs := ⟨Nat.le_refl _, fun _ _ _ => rfl⟩
theorem KeepB.ext {w0 w w2 : World} {bs : List Nat} (h : KeepB w0 w bs) (x : Ext w w2) : KeepB w0 w2 bs := ⟨Nat.le_trans h.1 x.size, fun b hb hn => (x.block (Nat.lt_of_lt_of_le hb h.1)).trans (h.2 b hb hn)⟩
theorem KeepB.set {w0 w : World} {bs : List Nat} (h : KeepB w0 w bs) {g i : Nat} (hg : g ∈ bs) (u : Value) : KeepB w0 (w.setCell ⟨g, i, none⟩ u) bs :=
  ⟨by rw [World.size_setCell]; exact h.1, fun b hb hn => (keep_setCell (p := ⟨g, i, none⟩) (fun e => hn (by rw [e]; exact hg))).trans (h.2 b hb hn)⟩
theorem KeepB.cell {w0 w : World} {bs : List Nat} (h : KeepB w0 w bs) {b i : Nat} {u : Value} (hn : b ∉ bs) (hc : w0.cell? ⟨b, i, none⟩ = some u) : w.cell? ⟨b, i, none⟩ = some u := by
  have hb := World.block_lt_of_cell? w0 _ hc
  rw [← hc]
  unfold World.cell?
  simp only [h.2 b hb hn]
structure BestJ (wE w0 : World) (gr gL gN gF n : Nat) (w : World) (L : List Int) (S : List Int × Int × Int) : Prop where
  len : L.length = n
  lab : ∀ x ∈ L, 0 ≤ x ∧ x ≤ 8
  row : Blk w gr 3 (L.map (Value.int .i64))
  least : Blk w gL 3 [.int .i64 S.2.1]
  count : Blk w gN 3 [.int .i64 S.2.2]
  first : ∃ v F, Blk w gF 28 [v] ∧ OwnSl intO w v S.1 F ∧ NewF w0 F
  ext : Ext wE w
  keep : KeepB w0 w [gr, gL, gN, gF]
  bd : -1 ≤ S.2.1 ∧ S.2.1 ≤ 64000 ∧ 0 ≤ S.2.2
/-- the four blocks -/
structure Four (wE w0 : World) (gr gL gN gF : Nat) : Prop where
  rL : gr ≠ gL
  rN : gr ≠ gN
  rF : gr ≠ gF
  LN : gL ≠ gN
  LF : gL ≠ gF
  NF : gN ≠ gF
  lr : gr < w0.heap.size
  lL : gL < w0.heap.size
  lN : gN < w0.heap.size
  lF : gF < w0.heap.size
  er : wE.heap.size ≤ gr
  eL : wE.heap.size ≤ gL
  eN : wE.heap.size ≤ gN
  eF : wE.heap.size ≤ gF
section
variable {wE w0 w w2 : World} {gr gL gN gF n : Nat} {L : List Int} {S : List Int × Int × Int}
theorem BestJ.mono (h : BestJ wE w0 gr gL gN gF n w L S) (x : Ext w w2) : BestJ wE w0 gr gL gN gF n w2 L S := by
  obtain ⟨v, F, f1, f2, f3⟩ := h.first
  exact ⟨h.len, h.lab, h.row.ext x, h.least.ext x, h.count.ext x, ⟨v, F, f1.ext x, f2.ext x, f3⟩, h.ext.trans x, h.keep.ext x, h.bd⟩
theorem BestJ.sl (h : BestJ wE w0 gr gL gN gF n w L S) (hn : n ≤ 8) : Sl intR w (.slice (some ⟨gr, 0, none⟩) n n) L := by
  have h1 : ∀ x ∈ L, I64 x := fun x hx => by have := h.lab x hx; unfold I64; omega
  have := (OwnSl.of_blk (R := intO) (xs := L) h.row (by rw [h.len]; unfold maxLen; omega) (ints_own L h1 w)).sl
  rw [h.len] at this
  exact this
/-- the row: a label is stored -/
theorem BestJ.setR (h : BestJ wE w0 gr gL gN gF n w L S) (f : Four wE w0 gr gL gN gF) {i : Nat} (hi : i < n) {x : Int} (hx : 0 ≤ x ∧ x ≤ 8) : BestJ wE w0 gr gL gN gF n (w.setCell ⟨gr, i, none⟩ (.int .i64 x)) (L.set i x) S := by
  obtain ⟨v, F, f1, f2, f3⟩ := h.first
  refine ⟨by rw [List.length_set]; exact h.len, fun y hy => ?_, blk_set h.row (by rw [h.len]; exact hi), h.least.other f.rL.symm, h.count.other f.rN.symm, ⟨v, F, f1.other f.rF.symm, f2.setCell (fun hm => ?_) _, f3⟩, h.ext.setCell f.er _, h.keep.set (by simp) _, h.bd⟩
  · rcases List.mem_or_eq_of_mem_set hy with hy | rfl
    · exact h.lab y hy
    · exact hx
  · have := f3.2 _ hm
    have := f.lr
    dsimp only at *
    omega
theorem BestJ.setN (h : BestJ wE w0 gr gL gN gF n w L S) (f : Four wE w0 gr gL gN gF) {x : Int} (hx : 0 ≤ x) : BestJ wE w0 gr gL gN gF n (w.setCell ⟨gN, 0, none⟩ (.int .i64 x)) L (S.1, S.2.1, x) := by
  obtain ⟨v, F, f1, f2, f3⟩ := h.first
  refine ⟨h.len, h.lab, h.row.other f.rN, h.least.other f.LN, Blk.store (done := []) h.count rfl _, ⟨v, F, f1.other f.NF.symm, f2.setCell (fun hm => ?_) _, f3⟩, h.ext.setCell f.eN _, h.keep.set (by simp) _, ⟨h.bd.1, h.bd.2.1, hx⟩⟩
  have := f3.2 _ hm
  have := f.lN
  dsimp only at *
  omega
/-- the three are stored -/
theorem BestJ.set3 (h : BestJ wE w0 gr gL gN gF n w L S) (f : Four wE w0 gr gL gN gF) {v : Value} {F : List Nat} {xs : List Int} {c : Int} (ho : OwnSl intO w v xs F) (hF : NewF w0 F) (hc : -1 ≤ c ∧ c ≤ 64000) :
    BestJ wE w0 gr gL gN gF n (((w.setCell ⟨gF, 0, none⟩ v).setCell ⟨gL, 0, none⟩ (.int .i64 c)).setCell ⟨gN, 0, none⟩ (.int .i64 1)) L (xs, c, 1) := by
  obtain ⟨v0, F0, f1, f2, f3⟩ := h.first
  have k1 : ∀ g, g < w0.heap.size → g ∉ F := fun g hg hm => by have := hF.2 _ hm; omega
  refine ⟨h.len, h.lab, ((h.row.other f.rF).other f.rL).other f.rN, Blk.other (Blk.store (done := []) (h.least.other f.LF) rfl _) f.LN, Blk.store (done := []) ((h.count.other f.NF).other f.LN.symm) rfl _,
    ⟨v, F, ((Blk.store (done := []) f1 rfl v).other f.LF.symm).other f.NF.symm, ((ho.setCell (k1 _ f.lF) _).setCell (k1 _ f.lL) _).setCell (k1 _ f.lN) _, hF⟩, ((h.ext.setCell f.eF _).setCell f.eL _).setCell f.eN _, ((h.keep.set (by simp) _).set (by simp) _).set (by simp) _, ⟨hc.1, hc.2, Int.le_of_lt Int.one_pos⟩⟩
end
theorem fold_count (m : List (List Int)) (l : List Constraint) : ∀ (xs : List (List Int)) (s : List Int × Int × Int), 0 ≤ s.2.2 → 0 ≤ (xs.foldl (bestSt m l) s).2.2 ∧ (xs.foldl (bestSt m l) s).2.2 ≤ s.2.2 + xs.length
  | [], s, h => by simp; omega
  | x :: xs, s, h => by
    rw [List.foldl_cons, List.length_cons]
    have h1 : 0 ≤ (bestSt m l s x).2.2 ∧ (bestSt m l s x).2.2 ≤ s.2.2 + 1 := by
      unfold bestSt
      split
      · split
        · dsimp only; omega
        · split
          · dsimp only; omega
          · omega
      · omega
    have := fold_count m l xs _ h1.1
    omega
theorem leaves_len (r : Nat) : ∀ (q : List Int) (nx : Nat), (leaves r q nx).length ≤ (nx + r + 1) ^ r := by
  induction r with
  | zero => intro q nx; simp [leaves]
  | succ r ih =>
    intro q nx
    rw [leaves, List.length_flatMap]
    have key : ∀ (xs : List Nat), (∀ x ∈ xs, x ≤ nx) → (xs.map fun (x : Nat) => (leaves r (q ++ [(x : Int)]) (max nx (x + 1))).length).sum ≤ xs.length * (nx + 1 + r + 1) ^ r := by
      intro xs
      induction xs with
      | nil => intro _; simp
      | cons x xs ihx =>
        intro hx
        rw [List.map_cons, List.sum_cons, List.length_cons, Nat.add_mul, Nat.one_mul]
        have h1 := ihx fun y hy => hx y (List.mem_cons_of_mem _ hy)
        have h2 := ih (q ++ [(x : Int)]) (max nx (x + 1))
        have h3 : (max nx (x + 1) + r + 1) ^ r ≤ (nx + 1 + r + 1) ^ r := Nat.pow_le_pow_left (by have := hx x (List.mem_cons_self ..); omega) r
        omega
    have h1 := key (List.range (nx + 1)) fun x hx => by have := List.mem_range.1 hx; omega
    rw [List.length_range] at h1
    refine Nat.le_trans h1 ?_
    rw [show nx + (r + 1) + 1 = nx + 1 + r + 1 by omega, Nat.pow_succ, Nat.mul_comm]
    exact Nat.mul_le_mul_left _ (by omega)
theorem leaves_bd {n : Nat} (hn : n ≤ 8) : (leaves n [] 0).length ≤ 1000000000 := by
  have h1 := leaves_len n [] 0
  have h2 : (0 + n + 1) ^ n ≤ 9 ^ 8 := Nat.le_trans (Nat.pow_le_pow_left (show 0 + n + 1 ≤ 9 by omega) n) (Nat.pow_le_pow_right (by decide) hn)
  have h3 : (9 : Nat) ^ 8 ≤ 1000000000 := by decide
  omega
end Go.Proofs.YtidchfncfcckiaaGreat

namespace Go.Proofs.YtidchfncfcckiaaGreat
open Go.RowKit

theorem blkSt_eq {s : List (List Int)} {k : Nat} {x : Nat} : blkSt s k x = if (x : Int) = s.length then (s ++ [[]]).set x ((s ++ [[]]).getD x [] ++ [(k : Int)]) else s.set x (s.getD x [] ++ [(k : Int)]) := by
  unfold blkSt
  simp only [Int.toNat_natCast]
  split <;> rfl

set_option maxHeartbeats 2000000 in
set_option maxRecDepth 20000 in
theorem impl_blocks (v : Value) (l : List Int) (w : World) (h : Sl intR w v l) (hr : RG l) (h8 : l.length ≤ 8) :
    Calls Tryz.prog 32 #[v] w fun e w2 => ∃ v2 F, e = .returned v2 ∧ OwnSl (slO intO) w2 v2 (blocksP l) F ∧ NewF w F ∧ Ext w w2 := by
  obtain ⟨A, cap, rfl, hm⟩ := h.form
  have HR := hid hr
  clear hr
  go_enter Tryz.func32, Tryz.ntmps32
  go_wp2
  go_loopw [3, 8] (fun t i wr => ∃ (k : Nat) (F : List Nat), k ≤ l.length ∧ i = .int .i64 k ∧ Bld (growO w.heap.size 3) wr w.heap.size 28 t (blkN l k) F ∧ Ext w wr) (fun _ i _ => l.length - (intOf i).toNat)
  case atStart => exact ⟨0, [], Nat.zero_le _, rfl, Bld.nil _ _ _, Ext.refl _⟩
  case round =>
    obtain ⟨k, F, hk, rfl, hB, hx⟩ := hrel
    by_cases hlt : k < l.length
    · obtain ⟨b, off, rfl, _, hc⟩ := (h.mono hx).int hlt
      obtain ⟨hf1, hf2⟩ := blkN_facts HR.out k hk
      have hxb := HR.out k hlt
      have hln := blkN_len HR.out hk
      obtain ⟨x, hxe⟩ : ∃ x : Nat, l.getD k 0 = x := ⟨(l.getD k 0).toNat, by omega⟩
      have hxe2 : l[k] = (x : Int) := by rw [← getD_getElem (d := 0) hlt]; exact hxe
      have HST := hid (show blkN l (k + 1) = blkSt (blkN l k) k x from by rw [blkN, hxe])
      rw [hxe2] at hc
      rw [hxe] at hxb
      obtain ⟨S, hS⟩ : ∃ S, S = blkN l k := ⟨_, rfl⟩
      rw [← hS] at HST hf1 hf2 hB hln
      have hrl : ∀ y, y < S.length → (S.getD y []).length ≤ k := fun y hy => by
        rw [hf2 y hy]
        unfold itemsOf
        rw [List.length_map]
        exact Nat.le_trans (List.length_filter_le _ _) (by simp)
      rw [blkSt_eq] at HST
      have HB := hid hB
      clear hS hf2 hxe hxe2
      by_cases he : (x : Int) = S.length
      · have heq : ((x : Int) == (S.length : Int)) = true := by simp [he]
        rw [if_pos he] at HST
        have hxS : x = S.length := by omega
        have HSZ := hid (show S.length + 1 ≤ 1099511627776 by omega)
        have hxl : x < (S ++ [([] : List Int)]).length := by simp; omega
        have HXL := hid hxl
        have HG := hid (show (S ++ [([] : List Int)]).getD x [] = [] from by rw [hxS, getD_app_at])
        have HK := hid (show I64 (k : Int) from by unfold I64; omega)
        obtain ⟨A3, c3, e3, _⟩ := hB.sl.form
        subst e3
        have hxn : x < S.length + 1 := by omega
        have hxi : (x : Int) < (S.length : Int) + 1 := by omega
        have hll : (S ++ [([] : List Int)]).length = S.length + 1 := by simp
        have HLL := hid hll
        clear hB hrl hf1 hxb he hxS hxl hll
        go_wp2_with (first | (at_builtin; refine wpList_app1h (R := growO w.heap.size 3) elemInts Nat.one_pos rfl _ _ rfl HB.out rfl _ 1 rfl (by simp) (one_slice _ _ _) (y := []) (grow_nil _ _ _) fresh_nil HSZ.out (by decide) hx.size ?_; intro v9 w9 hB9 hE9 hA9; have hx9 := hE9 w (Nat.le_refl _) hx; obtain ⟨g, cg, vi, eV, hgw, hgs, cx, fx, hrb, hvg, hrk⟩ := hB9.row HXL.out; subst eV; obtain ⟨A7, c7, e7, _⟩ := hrb.sl.form; subst e7; have HGW := hid hgw; have HWX := hid hx9; obtain ⟨R, hR⟩ : ∃ R, R = (S ++ [([] : List Int)]).getD x [] := ⟨_, rfl⟩; rw [← hR] at hrb; (try rw [← hR] at cx); (try rw [← hR] at hrk); have HRB := hid hrb; have HRK := hid hrk; have HRG := hid hR; have HRS := hid (show R.length + 1 ≤ 1099511627776 from by rw [hR, HG.out]; decide); have fx0 := fx x; clear hR hrb hrk hgw hgs hvg hB9 hx9) | (at_builtin; refine wpList_app1h (R := intO) elemInt (by decide) rfl _ _ rfl HRB.out rfl _ 1 rfl (by simp) (one_int _) (y := (k : Int)) (own_int _ _ HK.out) fresh_nil HRS.out (by decide) HWX.out.size ?_; intro v8 w8 hB8 hE8 hA8; obtain ⟨A8, c8, e8, _⟩ := hB8.sl.form; subst e8; obtain ⟨q1, q2, F8, q3⟩ := HRK.out w8 _ _ (fun b hb hv => hA8.keep b hb hv) hB8 hA8.own; rw [List.length_append, List.length_singleton] at q3; rw [HLL.out] at q3; have HQ := hid q3; have HX8 := hid ((hE8 w (Nat.le_refl _) HWX.out).setCell (p := ⟨g, x, none⟩) HGW.out (.slice A8 (R.length + 1) c8)); clear q3))
        go_roundw
        case rel => exact ⟨k + 1, F8, by omega, by go_num, by rw [HST.out, ← HRG.out]; exact HQ.out, HX8.out⟩
        case measure => simp [intOf]; omega
      · have heq : ((x : Int) == (S.length : Int)) = false := by simp [he]
        rw [if_neg he] at HST
        have hxl : x < S.length := by omega
        have HXL := hid hxl
        have HK := hid (show I64 (k : Int) from by unfold I64; omega)
        have hrk0 := hrl x hxl
        obtain ⟨g, cg, vi, eV, hgw, hgs, cx, fx, hrb, hvg, hrk⟩ := hB.row hxl
        subst eV
        obtain ⟨A7, c7, e7, _⟩ := hrb.sl.form
        subst e7
        have HGW := hid hgw
        have HWX := hid hx
        obtain ⟨R, hR⟩ : ∃ R, R = S.getD x [] := ⟨_, rfl⟩
        rw [← hR] at hrb hrk0
        try rw [← hR] at cx
        try rw [← hR] at hrk
        have HRB := hid hrb
        have HRK := hid hrk
        have HRG := hid hR
        have HRS := hid (show R.length + 1 ≤ 1099511627776 from by omega)
        have fx0 := fx x
        clear hR hrb hrk hgw hgs hvg hB hrk0 hrl hf1 hxb
        go_wp2_with (at_builtin; refine wpList_app1h (R := intO) elemInt (by decide) rfl _ _ rfl HRB.out rfl _ 1 rfl (by simp) (one_int _) (y := (k : Int)) (own_int _ _ HK.out) fresh_nil HRS.out (by decide) HWX.out.size ?_; intro v8 w8 hB8 hE8 hA8; obtain ⟨A8, c8, e8, _⟩ := hB8.sl.form; subst e8; obtain ⟨q1, q2, F8, q3⟩ := HRK.out w8 _ _ (fun b hb hv => hA8.keep b hb hv) hB8 hA8.own; rw [List.length_append, List.length_singleton] at q3; have HQ := hid q3; have HX8 := hid ((hE8 w (Nat.le_refl _) HWX.out).setCell (p := ⟨g, x, none⟩) HGW.out (.slice A8 (R.length + 1) c8)); clear q3)
        go_roundw
        case rel => exact ⟨k + 1, F8, by omega, by go_num, by rw [HST.out, ← HRG.out]; exact HQ.out, HX8.out⟩
        case measure => simp [intOf]; omega
    · have hkl : k = l.length := by omega
      subst hkl
      obtain ⟨F', q1, q2, q3⟩ := hB.growDone
      clear hB
      go_wp2
      go_ret
      exact ⟨_, F', rfl, q1, ⟨q2, q3⟩, hx⟩
end Go.Proofs.YtidchfncfcckiaaGreat

namespace Go.Proofs.YtidchfncfcckiaaGreat
open Go.RowKit

theorem sumN_le {f : Nat → Int} {c : Int} : ∀ n, (∀ i, i < n → f i ≤ c) → sumN f n ≤ n * c
  | 0, _ => by simp [sumN]
  | n + 1, h => by
    have := sumN_le (f := f) (c := c) n fun i hi => h i (by omega)
    have := h n (by omega)
    rw [sumN, Int.natCast_add, Int.add_mul]
    omega
theorem costPair_le {m : List (List Int)} (hm : WM m) (p : List Int) {i k : Nat} (hi : i < m.length) (hk : k < m.length) : costPair m p i k ≤ 1000 := by
  have := hm.bd i k hi hk
  unfold costPair
  split <;> omega
theorem costRow_le {m : List (List Int)} (hm : WM m) (p : List Int) {i k : Nat} (hi : i < m.length) (hk : k ≤ i) : 0 ≤ sumN (costPair m p i) k ∧ sumN (costPair m p i) k ≤ 8000 := by
  have h8 := hm.n8
  have := sumN_le (f := costPair m p i) (c := 1000) k fun j hj => costPair_le hm p hi (by omega)
  have := sumN_nn (f := costPair m p i) k fun j _ => costPair_nn m p i j
  omega
theorem costN_le {m : List (List Int)} (hm : WM m) (p : List Int) {k : Nat} (hk : k ≤ m.length) : 0 ≤ costN m p k ∧ costN m p k ≤ 64000 := by
  have h8 := hm.n8
  have := sumN_le (f := costRow m p) (c := 8000) k fun j hj => (costRow_le hm p (by omega) (Nat.le_refl _)).2
  have := costN_nn m p k
  unfold costN at *
  omega
theorem costP_le {m : List (List Int)} (hm : WM m) {p : List Int} (hk : p.length ≤ m.length) : 0 ≤ costP m p ∧ costP m p ≤ 64000 := costN_le hm p hk

set_option maxHeartbeats 1000000 in
set_option maxRecDepth 20000 in
theorem impl_partitionCost (v u : Value) (m : List (List Int)) (l : List Int) (w : World) (h : Sl (slR intR) w v m) (k : Sl intR w u l) (hm : WM m) (hl : l.length ≤ m.length) :
    Calls Tryz.prog 37 #[v, u] w fun e w2 => e = .returned (.int .i64 (costP m l)) ∧ Ext w w2 := by
  obtain ⟨A, cap, rfl, hm1⟩ := h.form
  obtain ⟨B, cap2, rfl, hm2⟩ := k.form
  have h8 := hm.n8
  have HM := hid hm
  have HH := hid h
  have HK := hid k
  clear hm h k
  go_enter Tryz.func37, Tryz.ntmps37
  go_wp2
  go_loopw [5, 10] (fun c i wr => ∃ i' : Nat, i' ≤ l.length ∧ i = .int .i64 i' ∧ c = .int .i64 (costN m l i') ∧ Ext w wr) (fun _ i _ => l.length - (intOf i).toNat)
  case atStart => exact ⟨0, Nat.zero_le _, rfl, rfl, Ext.refl _⟩
  case round =>
    obtain ⟨i, hi, rfl, rfl, hx⟩ := hrel
    by_cases hlt : i < l.length
    · have hb := costN_le HM.out l (k := i) (by omega)
      have HF := hid (show costN m l (i + 1) = costN m l i + sumN (costPair m l i) i from rfl)
      obtain ⟨c0, hc0⟩ : ∃ c, c = costN m l i := ⟨_, rfl⟩
      rw [← hc0] at hb HF ⊢
      clear hc0
      obtain ⟨w0, hw0⟩ : ∃ w0, w0 = wr := ⟨_, rfl⟩
      rw [← hw0] at hx ⊢
      clear hw0
      go_wp2_with fail
      go_loopw [5, 14] (fun c j wr => ∃ k' : Nat, k' ≤ i ∧ j = .int .i64 k' ∧ c = .int .i64 (c0 + sumN (costPair m l i) k') ∧ Ext w wr) (fun _ j _ => i - (intOf j).toNat)
      case atStart => exact ⟨0, Nat.zero_le _, rfl, by simp [sumN], hx⟩
      case round =>
        clear hx
        obtain ⟨j, hj, rfl, rfl, hx⟩ := hrel
        have hb2 := costRow_le HM.out l (i := i) (k := j) (by omega) hj
        have HS := hid (show sumN (costPair m l i) (j + 1) = sumN (costPair m l i) j + costPair m l i j from rfl)
        obtain ⟨c1, hc1⟩ : ∃ c, c = sumN (costPair m l i) j := ⟨_, rfl⟩
        rw [← hc1] at hb2 HS ⊢
        have HC9 := hid hc1
        clear hc1
        by_cases hji : j < i
        · have hjl : j < l.length := by omega
          have him : i < m.length := by omega
          have hjm : j < m.length := by omega
          obtain ⟨b, off, rfl, _, k1⟩ := (HK.out.mono hx).int hlt
          obtain ⟨b2, off2, e2, _, k2⟩ := (HK.out.mono hx).int hjl
          injection e2 with e2
          injection e2 with e3 e4 _
          subst e3; subst e4
          obtain ⟨b3, off3, A3, cap3, rfl, hsl, k3⟩ := (HH.out.mono hx).sl him
          have hrow := HM.out.row i him
          rw [row_at him] at hrow
          have hjr : j < m[i].length := by omega
          obtain ⟨b4, off4, rfl, _, k4⟩ := hsl.int hjr
          have hbd := HM.out.bd i j him hjm
          have he := ent_at him hjr
          have HCP := hid (show costPair m l i j = if l[i] = l[j] then max 0 (-m[i][j]) else max 0 m[i][j] from by unfold costPair; rw [getD_getElem hlt, getD_getElem hjl, he])
          rw [he] at hbd
          obtain ⟨x, hxe⟩ : ∃ x, x = m[i][j] := ⟨_, rfl⟩
          rw [← hxe] at k4 hbd HCP
          have y1 : ∀ z : ExtOf wr, z.1.cell? ⟨b, off + i, none⟩ = _ := fun z => z.2.cell k1
          have y2 : ∀ z : ExtOf wr, z.1.cell? ⟨b, off + j, none⟩ = _ := fun z => z.2.cell k2
          have HC34 := hid (fun (W : World) (y : Ext wr W) => And.intro (y.cell k3) (y.cell k4))
          clear k1 k2 k3 k4 hsl hrow he hxe
          by_cases heq : l[i] = l[j]
          · have hq : (l[i] == l[j]) = true := by simp [heq]
            have HP := hid (show costPair m l i j = max 0 (-x) from by rw [HCP.out, if_pos heq])
            clear heq
            go_wp2_with fail
            refine wp_region_ext (by kernel_rfl) (by kernel_rfl) ?_
            repeat (go_big_quiet_step ((fail)))
            refine wpQuiet_nil ?_
            rintro w5 ⟨⟨_, x5⟩, rfl⟩
            obtain ⟨k3, k4⟩ := HC34.out _ x5
            go_wp2
            go_roundw
            case rel => exact ⟨j + 1, by omega, by go_num, by rw [HS.out, HP.out]; congr 1; omega, hx.trans x5⟩
            case measure => simp [intOf]; omega
          · have hq : (l[i] == l[j]) = false := by simp [heq]
            have HP := hid (show costPair m l i j = max 0 x from by rw [HCP.out, if_neg heq])
            clear heq
            go_wp2_with fail
            refine wp_region_ext (by kernel_rfl) (by kernel_rfl) ?_
            repeat (go_big_quiet_step ((fail)))
            refine wpQuiet_nil ?_
            rintro w5 ⟨⟨_, x5⟩, rfl⟩
            obtain ⟨k3, k4⟩ := HC34.out _ x5
            go_wp2
            go_roundw
            case rel => exact ⟨j + 1, by omega, by go_num, by rw [HS.out, HP.out]; congr 1; omega, hx.trans x5⟩
            case measure => simp [intOf]; omega
        · have hji2 : j = i := by omega
          subst hji2
          go_wp2
          go_roundw
          case rel => exact ⟨j + 1, by omega, by go_num, by rw [HF.out, HC9.out], hx⟩
          case measure => simp [intOf]; omega
    · have hil : i = l.length := by omega
      subst hil
      go_wp2
      go_ret
      exact ⟨rfl, hx⟩

noncomputable def pcostP (m : List (List Int)) (l : List Int) : Int := if wmB m && (partB l && decide (l.length = m.length)) then costP m l else -1
theorem pcost_no {m : List (List Int)} {l : List Int} (h : ¬ (wmB m = true ∧ partB l = true ∧ l.length = m.length)) : pcostP m l = -1 := by
  unfold pcostP
  rw [if_neg fun k => h (by rwa [Bool.and_eq_true, Bool.and_eq_true, decide_eq_true_eq] at k)]
theorem pcost_yes {m : List (List Int)} {l : List Int} (h : wmB m = true ∧ partB l = true ∧ l.length = m.length) : pcostP m l = costP m l := by
  unfold pcostP
  rw [if_pos (by rw [Bool.and_eq_true, Bool.and_eq_true, decide_eq_true_eq]; exact h)]
set_option maxHeartbeats 400000 in
theorem impl_PartitionCost (v u : Value) (m : List (List Int)) (l : List Int) (w : World) (h : Sl (slR intR) w v m) (k : Sl intR w u l) :
    Calls Tryz.prog 66 #[v, u] w fun e w2 => e = .returned (.int .i64 (pcostP m l)) ∧ Ext w w2 := by
  have HA := hid (impl_IsWeightMatrix v m w h)
  have HB := hid (impl_IsPartition u l w k)
  have HC := hid (fun q q2 => impl_partitionCost v u m l w h k q q2)
  obtain ⟨A, cap, rfl, hm⟩ := h.form
  obtain ⟨B, cap2, rfl, hm2⟩ := k.form
  have HWM := hid (@wmB_iff m)
  have HY := hid (@pcost_yes m l)
  have HN := hid (@pcost_no m l)
  obtain ⟨r, hr⟩ : ∃ r, r = pcostP m l := ⟨_, rfl⟩
  obtain ⟨p, hp⟩ : ∃ p, p = wmB m := ⟨_, rfl⟩
  obtain ⟨q, hq⟩ : ∃ q, q = partB l := ⟨_, rfl⟩
  rw [← hr] at HY HN ⊢
  rw [← hp] at HA HWM HY HN
  rw [← hq] at HB HY HN
  clear hp hq hr
  cases p with
  | false =>
    have HR := hid (HN.out (by simp))
    go_enter Tryz.func66, Tryz.ntmps66
    go_wp2_with fail
    refine (HA.out).mono ?_
    rintro e w2 ⟨rfl, rfl⟩
    go_wp2
    go_ret
    exact ⟨ret_int HR.out.symm, Ext.refl _⟩
  | true =>
    cases q with
    | false =>
      have HR := hid (HN.out (by simp))
      go_enter Tryz.func66, Tryz.ntmps66
      go_wp2_with fail
      refine (HA.out).mono ?_
      rintro e w2 ⟨rfl, rfl⟩
      go_wp2_with fail
      refine (HB.out).mono ?_
      rintro e w2 ⟨rfl, rfl⟩
      go_wp2
      go_ret
      exact ⟨ret_int HR.out.symm, Ext.refl _⟩
    | true =>
      by_cases hl : l.length = m.length
      · have hl1 : ((l.length : Int) != (m.length : Int)) = false := by simp [hl]
        have HC2 := hid (HC.out (HWM.out.1 rfl) (by omega))
        have HR := hid (HY.out ⟨rfl, rfl, hl⟩)
        clear hl
        go_enter Tryz.func66, Tryz.ntmps66
        go_wp2_with fail
        refine (HA.out).mono ?_
        rintro e w2 ⟨rfl, rfl⟩
        go_wp2_with fail
        refine (HB.out).mono ?_
        rintro e w2 ⟨rfl, rfl⟩
        go_wp2_with fail
        refine (HC2.out).mono ?_
        rintro e w2 ⟨rfl, x2⟩
        go_wp2
        go_ret
        exact ⟨ret_int HR.out.symm, x2⟩
      · have hl1 : ((l.length : Int) != (m.length : Int)) = true := by simp; omega
        have HR := hid (HN.out (by simp [hl]))
        clear hl
        go_enter Tryz.func66, Tryz.ntmps66
        go_wp2_with fail
        refine (HA.out).mono ?_
        rintro e w2 ⟨rfl, rfl⟩
        go_wp2_with fail
        refine (HB.out).mono ?_
        rintro e w2 ⟨rfl, rfl⟩
        go_wp2
        go_ret
        exact ⟨ret_int HR.out.symm, Ext.refl _⟩
end Go.Proofs.YtidchfncfcckiaaGreat

namespace Go.Proofs.YtidchfncfcckiaaGreat
open Go.RowKit

theorem infoCon3 : (Tryz.prog.info? 79).map (fun i => (i.zero, i.size, i.bytes)) = some (some (.agg #[.int .i64 0, .int .i64 0, .bool false]), 3, 24) := by kernel_rfl
theorem elemCon3 : ElemT Tryz.prog 25 79 constraintO.n 24 := by
  obtain ⟨i, h1, h2, h3, h4⟩ := info_parts infoCon3
  exact ⟨Tryz.underlying25, i, _, h1, h2, h3, h4, rfl⟩
theorem one_con3 (a b : Int) (c : Bool) : ∀ u ∈ (#[Value.int .i64 a, .int .i64 b, .bool c] : Array Value).toList, u.oneCell' = true := by simp [Value.oneCell']

set_option maxHeartbeats 400000 in
set_option maxRecDepth 20000 in
theorem impl_RestrictConstraints (v u : Value) (xs : List Constraint) (items : List Int) (w : World) (h : Sl constraintR w v xs) (k0 : Sl intR w u items) (hb : xs.length ≤ 1048576) (hb2 : items.length ≤ 1048576) :
    Calls Tryz.prog 35 #[v, u] w fun e w2 => ∃ v2 F, e = .returned v2 ∧ OwnSl constraintO w2 v2 (restrC xs items) F ∧ NewF w F ∧ Ext w w2 := by
  obtain ⟨A, cap, rfl, hm⟩ := h.form
  obtain ⟨B, cap2, rfl, hm2⟩ := k0.form
  go_enter Tryz.func35, Tryz.ntmps35
  go_wp2
  go_loopw [5, 12] (fun t i wr => ∃ k : Nat, k ≤ xs.length ∧ i = .int .i64 k ∧ Bld constraintO wr w.heap.size 79 t (restrC (xs.take k) items) [] ∧ Ext w wr) (fun _ i _ => xs.length - (intOf i).toNat)
  case atStart => exact ⟨0, Nat.zero_le _, rfl, Bld.nil w _ _, Ext.refl _⟩
  case round =>
    obtain ⟨k, hk, rfl, hB, hx⟩ := hrel
    by_cases hlt : k < xs.length
    · obtain ⟨b, off, rfl, hok, hc0, hc1, hc2⟩ := (h.mono hx).constraint hlt
      clear hok
      have HF := hid (restrC_take (it := items) hlt)
      have hbl := restrC_len (xs.take k) items
      rw [List.length_take] at hbl
      have HBL := hid (show (restrC (xs.take k) items).length + 1 ≤ 1099511627776 by omega)
      have ba := idxI_bd xs[k].a items
      have bb := idxI_bd xs[k].b items
      have xz : Ext wr (wr.alloc (.cells #[.int .i64 xs[k].a, .int .i64 xs[k].b, .bool xs[k].same] 79)) := (Ext.refl _).alloc _
      have HIR := hid (fun (z : ExtOf (wr.alloc (.cells #[.int .i64 xs[k].a, .int .i64 xs[k].b, .bool xs[k].same] 79))) => k0.mono ((hx.trans xz).trans z.2))
      have hzb : ∀ z : ExtOf (wr.alloc (.cells #[.int .i64 xs[k].a, .int .i64 xs[k].b, .bool xs[k].same] 79)), z.1.cell? ⟨wr.heap.size, 0, none⟩ = some (.int .i64 xs[k].a) ∧ z.1.cell? ⟨wr.heap.size, 1, none⟩ = some (.int .i64 xs[k].b) := fun z => ⟨z.2.box.1 0, z.2.box.1 1⟩
      clear hbl
      go_wp2_with fail
      refine wp_region_ext (by kernel_rfl) (by kernel_rfl) ?_
      repeat (go_big_quiet_step (((go_at_call 87; exact quiet_same (slices_Index _ items _ _ (HIR.out _))))))
      refine wpQuiet_nil ?_
      rintro w4 ⟨⟨_, x4⟩, rfl⟩
      have c2 : w4.cell? ⟨wr.heap.size, 2, none⟩ = some (.bool xs[k].same) := x4.box.1 2
      have x5 : Ext wr w4 := ((Ext.refl _).alloc _).trans x4
      clear hzb xz
      by_cases h0 : 0 ≤ idxI xs[k].a items
      · by_cases h1 : 0 ≤ idxI xs[k].b items
        · have HY := hid (show restrC (xs.take (k + 1)) items = restrC (xs.take k) items ++ [⟨idxI xs[k].a items, idxI xs[k].b items, xs[k].same⟩] from by rw [HF.out, if_pos ⟨h0, h1⟩])
          have HI := hid (show I64 (idxI xs[k].a items) ∧ I64 (idxI xs[k].b items) from by unfold I64; omega)
          go_wp2_with (at_builtin; refine wpList_app1 (R := constraintO) elemCon3 (by decide) rfl _ _ rfl (hB.ext x5) rfl _ 1 rfl (by simp) (one_con3 _ _ _) (y := ⟨idxI xs[k].a items, idxI xs[k].b items, xs[k].same⟩) ⟨⟨rfl, ⟨HI.out.1, HI.out.2⟩⟩, rfl⟩ fresh_nil HBL.out (by decide) (Nat.le_trans hx.size x5.size) ?_; intro v9 w9 hB9 hE9)
          go_roundw
          case rel => exact ⟨k + 1, by omega, by go_num, by rw [HY.out]; exact hB9, hE9 w (Nat.le_refl _) (hx.trans x5)⟩
          case measure => simp [intOf]; omega
        · have HY := hid (show restrC (xs.take (k + 1)) items = restrC (xs.take k) items from by rw [HF.out, if_neg fun h => h1 h.2])
          have h1' : idxI xs[k].b items < 0 := by omega
          clear h1
          go_wp2
          go_roundw
          case rel => exact ⟨k + 1, by omega, by go_num, by rw [HY.out]; exact hB.ext x5, hx.trans x5⟩
          case measure => simp [intOf]; omega
      · have HY := hid (show restrC (xs.take (k + 1)) items = restrC (xs.take k) items from by rw [HF.out, if_neg fun h => h0 h.1])
        have h0' : idxI xs[k].a items < 0 := by omega
        clear h0
        go_wp2
        go_roundw
        case rel => exact ⟨k + 1, by omega, by go_num, by rw [HY.out]; exact hB.ext x5, hx.trans x5⟩
        case measure => simp [intOf]; omega
    · go_wp2
      go_ret
      rw [List.take_of_length_le (by omega)] at hB
      obtain ⟨F', d1, d2, d3⟩ := hB.done
      exact ⟨_, F', rfl, d1, ⟨d2, d3⟩, hx⟩

set_option maxHeartbeats 400000 in
set_option maxRecDepth 20000 in
theorem spec_RestrictConstraints (v u : Value) (xs : List Constraint) (items : List Int) (w : World) (h : Sl constraintR w v xs) (k0 : Sl intR w u items) (hb : xs.length ≤ 1048576) (hb2 : items.length ≤ 1048576) :
    Calls Tryz.prog 44 #[v, u] w fun e w2 => ∃ v2 F, e = .returned v2 ∧ OwnSl constraintO w2 v2 (restrC xs items) F ∧ NewF w F ∧ Ext w w2 := by
  obtain ⟨A, cap, rfl, hm⟩ := h.form
  obtain ⟨B, cap2, rfl, hm2⟩ := k0.form
  go_enter Tryz.func44, Tryz.ntmps44
  go_wp2
  go_loopw [5, 6] (fun t i wr => ∃ k : Nat, k ≤ xs.length ∧ i = .int .i64 k ∧ Bld constraintO wr w.heap.size 79 t (restrC (xs.take k) items) [] ∧ Ext w wr) (fun _ i _ => xs.length - (intOf i).toNat)
  case atStart => exact ⟨0, Nat.zero_le _, rfl, Bld.lit w (Nat.le_refl _) _, (Ext.refl _).alloc _⟩
  case round =>
    obtain ⟨k, hk, rfl, hB, hx⟩ := hrel
    by_cases hlt : k < xs.length
    · obtain ⟨b, off, rfl, hok, hc0, hc1, hc2⟩ := (h.mono hx).constraint hlt
      clear hok
      have HF := hid (restrC_take (it := items) hlt)
      have hbl := restrC_len (xs.take k) items
      rw [List.length_take] at hbl
      have HBL := hid (show (restrC (xs.take k) items).length + 1 ≤ 1099511627776 by omega)
      have hir := k0.mono hx
      have ba := idxI_bd xs[k].a items
      have bb := idxI_bd xs[k].b items
      clear hbl
      by_cases h0 : 0 ≤ idxI xs[k].a items
      · by_cases h1 : 0 ≤ idxI xs[k].b items
        · have HY := hid (show restrC (xs.take (k + 1)) items = restrC (xs.take k) items ++ [⟨idxI xs[k].a items, idxI xs[k].b items, xs[k].same⟩] from by rw [HF.out, if_pos ⟨h0, h1⟩])
          have HI := hid (show I64 (idxI xs[k].a items) ∧ I64 (idxI xs[k].b items) from by unfold I64; omega)
          go_wp2_with (first | (go_at_call 95; refine (spec_l24Find _ items _ _ hir).mono ?_; rintro e w2 ⟨rfl, rfl⟩) | (at_builtin; refine wpList_app1 (R := constraintO) elemCon3 (by decide) rfl _ _ rfl hB rfl _ 1 rfl (by simp) (one_con3 _ _ _) (y := ⟨idxI xs[k].a items, idxI xs[k].b items, xs[k].same⟩) ⟨⟨rfl, ⟨HI.out.1, HI.out.2⟩⟩, rfl⟩ fresh_nil HBL.out (by decide) hx.size ?_; intro v9 w9 hB9 hE9))
          go_roundw
          case rel => exact ⟨k + 1, by omega, by go_num, by rw [HY.out]; exact hB9, hE9 w (Nat.le_refl _) hx⟩
          case measure => simp [intOf]; omega
        · have HY := hid (show restrC (xs.take (k + 1)) items = restrC (xs.take k) items from by rw [HF.out, if_neg fun h => h1 h.2])
          have h1' : idxI xs[k].b items < 0 := by omega
          clear h1
          go_wp2_with (go_at_call 95; refine (spec_l24Find _ items _ _ hir).mono ?_; rintro e w2 ⟨rfl, rfl⟩)
          go_roundw
          case rel => exact ⟨k + 1, by omega, by go_num, by rw [HY.out]; exact hB, hx⟩
          case measure => simp [intOf]; omega
      · have HY := hid (show restrC (xs.take (k + 1)) items = restrC (xs.take k) items from by rw [HF.out, if_neg fun h => h0 h.1])
        have h0' : idxI xs[k].a items < 0 := by omega
        clear h0
        go_wp2_with (go_at_call 95; refine (spec_l24Find _ items _ _ hir).mono ?_; rintro e w2 ⟨rfl, rfl⟩)
        go_roundw
        case rel => exact ⟨k + 1, by omega, by go_num, by rw [HY.out]; exact hB, hx⟩
        case measure => simp [intOf]; omega
    · go_wp2
      go_ret
      rw [List.take_of_length_le (by omega)] at hB
      obtain ⟨F', d1, d2, d3⟩ := hB.done
      exact ⟨_, F', rfl, d1, ⟨d2, d3⟩, hx⟩
end Go.Proofs.YtidchfncfcckiaaGreat

namespace Go.Proofs.YtidchfncfcckiaaGreat
open Go.RowKit

def pl (x : Int) : Int := if 0 < x then 1 else 0
def ng (x : Int) : Int := if x < 0 then 1 else 0
def badW (x y z : Int) : Bool := decide (pl x + pl y + pl z = 2) && decide (ng x + ng y + ng z = 1)
def ab (x : Int) : Int := max x (-x)
def min3 (x y z : Int) : Int := if z < (if y < x then y else x) then z else (if y < x then y else x)
theorem min3_le (x y z : Int) : min3 x y z ≤ x ∧ min3 x y z ≤ y ∧ min3 x y z ≤ z ∧ (min3 x y z = x ∨ min3 x y z = y ∨ min3 x y z = z) := by unfold min3; split <;> split at * <;> omega
def mkT (m : List (List Int)) (a b c : Nat) : Triangle := ⟨a, b, c, min3 (ab (ent m a b)) (ab (ent m a c)) (ab (ent m b c))⟩
def badB (m : List (List Int)) (a b c : Nat) : Bool := badW (ent m a b) (ent m a c) (ent m b c)
def tC (m : List (List Int)) (a b : Nat) : Nat → List Triangle
  | 0 => []
  | k + 1 => if b < k ∧ badB m a b k = true then tC m a b k ++ [mkT m a b k] else tC m a b k
def tB (m : List (List Int)) (a : Nat) : Nat → List Triangle
  | 0 => []
  | k + 1 => if a < k then tB m a k ++ tC m a k m.length else tB m a k
def tA (m : List (List Int)) : Nat → List Triangle
  | 0 => []
  | k + 1 => tA m k ++ tB m k m.length
def badL (m : List (List Int)) : List Triangle := tA m m.length
theorem tC_le (m : List (List Int)) (a b : Nat) : ∀ k, k ≤ b + 1 → tC m a b k = []
  | 0, _ => rfl
  | k + 1, h => by rw [tC, if_neg (by omega)]; exact tC_le m a b k (by omega)
theorem tB_le (m : List (List Int)) (a : Nat) : ∀ k, k ≤ a + 1 → tB m a k = []
  | 0, _ => rfl
  | k + 1, h => by
    rw [tB, if_neg (by omega)]; exact tB_le m a k (by omega)
/-- a triangle of the list -/
def IsT (m : List (List Int)) (t : Triangle) : Prop := ∃ a b c : Nat, a < b ∧ b < c ∧ c < m.length ∧ badB m a b c = true ∧ t.a = a ∧ t.b = b ∧ t.c = c
theorem tC_mem {m : List (List Int)} {a b : Nat} (hab : a < b) : ∀ k, k ≤ m.length → ∀ t ∈ tC m a b k, ∃ c, b < c ∧ c < k ∧ badB m a b c = true ∧ t = mkT m a b c
  | 0, _, t, ht => by cases ht
  | k + 1, hk, t, ht => by
    rw [tC] at ht
    have ih := tC_mem (m := m) hab k (by omega) t
    split at ht
    · rename_i h
      rcases List.mem_append.1 ht with ht | ht
      · obtain ⟨c, h1, h2, h3⟩ := ih ht
        exact ⟨c, h1, by omega, h3⟩
      · rw [List.mem_singleton] at ht
        exact ⟨k, h.1, by omega, h.2, ht⟩
    · obtain ⟨c, h1, h2, h3⟩ := ih ht
      exact ⟨c, h1, by omega, h3⟩
theorem tB_mem {m : List (List Int)} {a : Nat} : ∀ k, k ≤ m.length → ∀ t ∈ tB m a k, ∃ b c, a < b ∧ b < c ∧ c < m.length ∧ badB m a b c = true ∧ t = mkT m a b c
  | 0, _, t, ht => by cases ht
  | k + 1, hk, t, ht => by
    rw [tB] at ht
    split at ht
    · rename_i h
      rcases List.mem_append.1 ht with ht | ht
      · exact tB_mem k (by omega) t ht
      · obtain ⟨c, h1, h2, h3⟩ := tC_mem h m.length (Nat.le_refl _) t ht
        exact ⟨k, c, h, h1, h2, h3⟩
    · exact tB_mem k (by omega) t ht
theorem tA_mem {m : List (List Int)} : ∀ k, k ≤ m.length → ∀ t ∈ tA m k, ∃ a b c, a < b ∧ b < c ∧ c < m.length ∧ badB m a b c = true ∧ t = mkT m a b c
  | 0, _, t, ht => by cases ht
  | k + 1, hk, t, ht => by
    rw [tA] at ht
    rcases List.mem_append.1 ht with ht | ht
    · exact tA_mem k (by omega) t ht
    · obtain ⟨b, c, h⟩ := tB_mem m.length (Nat.le_refl _) t ht
      exact ⟨k, b, c, h⟩
/-- how many there can be -/
def cB (n a : Nat) : Nat → Nat
  | 0 => 0
  | k + 1 => if a < k then cB n a k + (n - (k + 1)) else cB n a k
def cA (n : Nat) : Nat → Nat
  | 0 => 0
  | k + 1 => cA n k + cB n k n
theorem tC_len (m : List (List Int)) (a b : Nat) : ∀ k, (tC m a b k).length ≤ k - (b + 1)
  | 0 => Nat.zero_le _
  | k + 1 => by
    have ih := tC_len m a b k
    rw [tC]
    split
    · rw [List.length_append, List.length_singleton]; omega
    · omega
theorem tB_len (m : List (List Int)) (a : Nat) : ∀ k, (tB m a k).length ≤ cB m.length a k
  | 0 => Nat.zero_le _
  | k + 1 => by
    have ih := tB_len m a k
    rw [tB, cB]
    split
    · have := tC_len m a k m.length
      rw [List.length_append]; omega
    · exact ih
theorem tA_len (m : List (List Int)) : ∀ k, (tA m k).length ≤ cA m.length k
  | 0 => Nat.zero_le _
  | k + 1 => by
    have ih := tA_len m k
    have := tB_len m k m.length
    rw [tA, cA, List.length_append]; omega
theorem badL_len {m : List (List Int)} (h8 : m.length ≤ 8) : (badL m).length ≤ 56 := by
  have h := tA_len m m.length
  have key : ∀ n, n ≤ 8 → cA n n ≤ 56 := by decide
  exact Nat.le_trans h (key _ h8)

/-! ### The packing -/
def onT (t : Triangle) (x y : Int) : Bool := (t.a == x && t.b == y) || ((t.a == x && t.c == y) || (t.b == x && t.c == y))
def usedT (l : List Triangle) (x y : Int) : Int := (l.map fun t => if onT t x y = true then t.weight else 0).sum
theorem usedT_snoc (l : List Triangle) (t : Triangle) (x y : Int) : usedT (l ++ [t]) x y = usedT l x y + if onT t x y = true then t.weight else 0 := by
  unfold usedT
  rw [List.map_append, List.sum_append]
  simp
def leftT (m : List (List Int)) (l : List Triangle) (x y : Int) : Int := ab (ent m x.toNat y.toNat) - usedT l x y
def grW (m : List (List Int)) (l : List Triangle) (t : Triangle) : Int := min3 (leftT m l t.a t.b) (leftT m l t.a t.c) (leftT m l t.b t.c)
def grSt (m : List (List Int)) (l : List Triangle) (t : Triangle) : List Triangle := if 0 < grW m l t then l ++ [{ t with weight := grW m l t }] else l
def greedyL (m : List (List Int)) : List Triangle := (badL m).foldl (grSt m) []
/-- what a packing is -/
structure PackB (m : List (List Int)) (l : List Triangle) : Prop where
  tri : ∀ t ∈ l, IsT m t ∧ 1 ≤ t.weight ∧ t.weight ≤ 1000
  fit : ∀ x y : Nat, x < y → y < m.length → 0 ≤ usedT l x y ∧ usedT l x y ≤ ab (ent m x y)
theorem ab_bd {m : List (List Int)} (hm : WM m) {x y : Nat} (hx : x < m.length) (hy : y < m.length) : 0 ≤ ab (ent m x y) ∧ ab (ent m x y) ≤ 1000 := by
  have := hm.bd x y hx hy
  unfold ab
  omega
theorem PackB.nil {m : List (List Int)} (hm : WM m) : PackB m [] := by
  refine ⟨fun t ht => (by cases ht), fun x y hxy hy => ⟨Int.le_refl _, (ab_bd hm (by omega) hy).1⟩⟩
theorem PackB.step {m : List (List Int)} (hm : WM m) {l : List Triangle} (h : PackB m l) {t : Triangle} (ht : IsT m t) : PackB m (grSt m l t) := by
  unfold grSt
  split
  · rename_i hw
    obtain ⟨a, b, c, hab, hbc, hc, hbad, ea, eb, ec⟩ := ht
    have l1 : grW m l t ≤ leftT m l a b := by unfold grW; rw [ea, eb, ec]; have := min3_le (leftT m l a b) (leftT m l a c) (leftT m l b c); omega
    have l2 : grW m l t ≤ leftT m l a c := by unfold grW; rw [ea, eb, ec]; have := min3_le (leftT m l a b) (leftT m l a c) (leftT m l b c); omega
    have l3 : grW m l t ≤ leftT m l b c := by unfold grW; rw [ea, eb, ec]; have := min3_le (leftT m l a b) (leftT m l a c) (leftT m l b c); omega
    obtain ⟨W, hW⟩ : ∃ W, W = grW m l t := ⟨_, rfl⟩
    rw [← hW] at hw l1 l2 l3 ⊢
    unfold leftT at l1 l2 l3
    simp only [Int.toNat_natCast] at l1 l2 l3
    refine ⟨fun s hs => ?_, fun x y hxy hy => ?_⟩
    · rcases List.mem_append.1 hs with hs | hs
      · exact h.tri s hs
      · rw [List.mem_singleton] at hs
        subst hs
        have := h.fit a b hab (by omega)
        have := ab_bd hm (show a < m.length by omega) (show b < m.length by omega)
        exact ⟨⟨a, b, c, hab, hbc, hc, hbad, ea, eb, ec⟩, by dsimp only; omega, by dsimp only; omega⟩
    · rw [usedT_snoc]
      have hf := h.fit x y hxy hy
      split
      · rename_i ho
        unfold onT at ho
        simp only [Bool.or_eq_true, Bool.and_eq_true, beq_iff_eq] at ho
        rcases ho with ⟨h1, h2⟩ | ⟨h1, h2⟩ | ⟨h1, h2⟩
        · have e1 : x = a := by omega
          have e2 : y = b := by omega
          subst e1; subst e2
          dsimp only; omega
        · have e1 : x = a := by omega
          have e2 : y = c := by omega
          subst e1; subst e2
          dsimp only; omega
        · have e1 : x = b := by omega
          have e2 : y = c := by omega
          subst e1; subst e2
          dsimp only; omega
      · omega
  · exact h
theorem gr_pack {m : List (List Int)} (hm : WM m) : ∀ (xs : List Triangle) (l : List Triangle), (∀ t ∈ xs, IsT m t) → PackB m l → PackB m (xs.foldl (grSt m) l) ∧ (xs.foldl (grSt m) l).length ≤ l.length + xs.length
  | [], l, _, h => ⟨h, by simp⟩
  | t :: xs, l, hx, h => by
    rw [List.foldl_cons, List.length_cons]
    obtain ⟨h1, h2⟩ := gr_pack hm xs _ (fun s hs => hx s (List.mem_cons_of_mem _ hs)) (h.step hm (hx t (List.mem_cons_self ..)))
    refine ⟨h1, Nat.le_trans h2 ?_⟩
    have : (grSt m l t).length ≤ l.length + 1 := by
      unfold grSt
      split
      · rw [List.length_append, List.length_singleton]; exact Nat.le_refl _
      · exact Nat.le_succ _
    omega
theorem badL_isT {m : List (List Int)} {t : Triangle} (h : t ∈ badL m) : IsT m t := by
  obtain ⟨a, b, c, h1, h2, h3, h4, rfl⟩ := tA_mem m.length (Nat.le_refl _) t h
  exact ⟨a, b, c, h1, h2, h3, h4, rfl, rfl, rfl⟩
theorem greedy_pack {m : List (List Int)} (hm : WM m) : PackB m (greedyL m) ∧ (greedyL m).length ≤ 56 := by
  obtain ⟨h1, h2⟩ := gr_pack hm (badL m) [] (fun t ht => badL_isT ht) (PackB.nil hm)
  have := badL_len hm.n8
  exact ⟨h1, by rw [List.length_nil] at h2; unfold greedyL; omega⟩
def sumT (l : List Triangle) : Int := (l.map fun t => t.weight).sum
theorem sumT_snoc (l : List Triangle) (t : Triangle) : sumT (l ++ [t]) = sumT l + t.weight := by
  unfold sumT
  rw [List.map_append, List.sum_append]; simp
theorem sumT_bd {l : List Triangle} (h : ∀ t ∈ l, 1 ≤ t.weight ∧ t.weight ≤ 1000) : 0 ≤ sumT l ∧ sumT l ≤ 1000 * l.length := by
  induction l with
  | nil => exact ⟨Int.le_refl _, by simp [sumT]⟩
  | cons t l ih =>
    have h1 := ih fun s hs => h s (List.mem_cons_of_mem _ hs)
    have h2 := h t (List.mem_cons_self ..)
    unfold sumT at *
    rw [List.map_cons, List.sum_cons, List.length_cons]
    omega
noncomputable def gapP (m : List (List Int)) (p : List Int) : Int := costP m p - sumT (greedyL m)
/-- a prefix uses no more than the whole -/
theorem usedT_take {l : List Triangle} (h : ∀ t ∈ l, 1 ≤ t.weight) (x y : Int) (k : Nat) : usedT (l.take k) x y ≤ usedT l x y := by
  have e : usedT l x y = usedT (l.take k) x y + usedT (l.drop k) x y := by
    unfold usedT
    rw [← List.sum_append, ← List.map_append, List.take_append_drop]
  have nn : ∀ q : List Triangle, (∀ t ∈ q, 1 ≤ t.weight) → 0 ≤ usedT q x y := fun q => by
    induction q with
    | nil => intro _; exact Int.le_refl _
    | cons t q ih =>
      intro hq
      have h1 := ih fun s hs => hq s (List.mem_cons_of_mem _ hs)
      have h2 := hq t (List.mem_cons_self ..)
      unfold usedT at *
      rw [List.map_cons, List.sum_cons]
      split <;> omega
  have := nn (l.drop k) fun t ht => h t (List.mem_of_mem_drop ht)
  omega
end Go.Proofs.YtidchfncfcckiaaGreat

namespace Go.Proofs.YtidchfncfcckiaaGreat
open Go.RowKit

set_option maxHeartbeats 1000000 in
theorem slices_Max_i (v : Value) (l : List Int) (w : World) (h : Sl intR w v l) (hr : RG l) (h1 : 1 ≤ l.length) (h8 : l.length ≤ 1048576) :
    Calls Tryz.prog 145 #[v] w fun e w2 => e = .returned (.int .i64 (nextOf l - 1)) ∧ w = w2 := by
  obtain ⟨A, cap, rfl, hm⟩ := h.form
  obtain ⟨b, off, rfl, _, hc⟩ := h.int (i := 0) (by omega)
  rw [Nat.add_zero] at hc
  have hn1 : decide ((l.length : Int) < 1) = false := by simp; omega
  have h0l : (0 : Int) < (l.length : Int) := by omega
  have hz := nextOf_take (l := l) (k := 0) (by omega)
  have hb := hr 0 (by omega)
  rw [getD_getElem (by omega)] at hb
  have HZ := hid (show l[0] = nextOf (l.take (0 + 1)) - 1 from by
    rw [hz]
    have : nextOf (l.take 0) = 0 := rfl
    omega)
  clear hz hb
  go_enter Tryz.func145, Tryz.ntmps145
  go_wp2
  go_loop [3, 4] (fun t i => ∃ k : Nat, 1 ≤ k ∧ k ≤ l.length ∧ i = .int .i64 k ∧ t = .int .i64 (nextOf (l.take k) - 1)) (fun _ i => l.length - (intOf i).toNat)
  case atStart => exact ⟨1, Nat.le_refl _, h1, rfl, by rw [HZ.out]⟩
  case round =>
    clear hc
    obtain ⟨k, hk1, hk, rfl, rfl⟩ := hrel
    by_cases hlt : k < l.length
    · obtain ⟨b2, off2, e2, _, hc⟩ := h.int hlt
      injection e2 with e9
      injection e9 with e8 e7 q3
      clear q3
      subst e8; subst e7
      have HN := hid (nextOf_take hlt)
      obtain ⟨nx, hnx⟩ : ∃ nx, nx = nextOf (l.take k) := ⟨_, rfl⟩
      rw [← hnx] at HN ⊢
      obtain ⟨x, hx⟩ : ∃ x, x = l[k] := ⟨_, rfl⟩
      rw [← hx] at HN hc
      clear hnx hx
      go_wp2
      all_goals
        go_round
        case rel => exact ⟨k + 1, by omega, by omega, by go_num, by rw [HN.out]; congr 1; omega⟩
        case measure => simp [intOf]; omega
    · have hkl : k = l.length := by omega
      subst hkl
      rw [List.take_length]
      go_wp2
      go_ret
      exact ⟨rfl, rfl⟩
set_option maxHeartbeats 400000 in
theorem impl_blockCount (v : Value) (l : List Int) (w : World) (h : Sl intR w v l) (hr : RG l) (h1 : 1 ≤ l.length) (h8 : l.length ≤ 8) :
    Calls Tryz.prog 140 #[v] w fun e w2 => e = .returned (.int .i64 (nextOf l)) ∧ w = w2 := by
  have HM := hid (slices_Max_i v l w h hr h1 (by omega))
  have hb := RG.next_le (l := l) (k := l.length) (by rw [List.take_length]; exact hr) (Nat.le_refl _)
  rw [List.take_length] at hb
  obtain ⟨A, cap, rfl, hm⟩ := h.form
  obtain ⟨nx, hnx⟩ : ∃ nx, nx = nextOf l := ⟨_, rfl⟩
  rw [← hnx] at HM hb ⊢
  clear hnx
  go_enter Tryz.func140, Tryz.ntmps140
  go_wp2_with fail
  refine (HM.out).mono ?_
  rintro e w2 ⟨rfl, rfl⟩
  go_wp2
  go_ret
  exact ⟨ret_int (by omega), rfl⟩

set_option maxHeartbeats 400000 in
theorem impl_IsOrder (n : Nat) (v : Value) (o : List Int) (w : World) (h : Sl intR w v o) (ho : OrdB n o) (h1 : 1 ≤ n) (h8 : n ≤ 8) :
    Calls Tryz.prog 137 #[.int .i64 n, v] w fun e w2 => e = .returned (.bool true) ∧ w = w2 := by
  obtain ⟨A, cap, rfl, hm⟩ := h.form
  have hin : inB (n : Int) 1 8 = true := by unfold inB; rw [decide_eq_true_eq]; omega
  have HIN := hid (fun (W : World) => impl_within (n : Int) 1 8 W)
  rw [hin] at HIN
  have hl := ho.len
  have hne : ((o.length : Int) != (n : Int)) = false := by simp [hl]
  have HL := hid hl
  have HO := hid ho
  clear hin hl ho
  go_enter Tryz.func137, Tryz.ntmps137
  go_wp2_with fail
  refine (HIN.out _).mono ?_
  rintro e w2 ⟨rfl, rfl⟩
  go_wp2_with fail
  go_loop [18] (fun i => ∃ k : Nat, k ≤ o.length ∧ i = .int .i64 k) (fun i => o.length - (intOf i).toNat)
  case atStart => exact ⟨0, Nat.zero_le _, rfl⟩
  case round =>
    obtain ⟨k, hk, rfl⟩ := hrel
    by_cases hlt : k < o.length
    · obtain ⟨b, off, rfl, _, hc⟩ := h.int hlt
      have hkn : k < n := by have := HL.out; omega
      have hb := HO.out.bd k hkn
      rw [getD_getElem hlt] at hb
      have hi : inB o[k] 0 ((n : Int) - 1) = true := by unfold inB; rw [decide_eq_true_eq]; omega
      have HI := hid (fun (W : World) => impl_isItem o[k] n W (by omega) (by omega))
      rw [hi] at HI
      have hcap := h.cap_
      have hkc : k ≤ cap := by omega
      have hkc2 : (k : Int) ≤ (cap : Int) := by omega
      have hkn0 : (0 : Int) ≤ (k : Int) := by omega
      have HC := hid (slices_Contains _ (o.take k) o[k] w (h.take hk))
      have hno : hasI o[k] (o.take k) = false := by
        cases hb : hasI o[k] (o.take k) with
        | false => rfl
        | true =>
          have := (hasI_iff _ _).1 hb
          obtain ⟨j, hj, e⟩ := mem_getD this
          rw [List.length_take] at hj
          have e2 : (o.take k).getD j 0 = o.getD j 0 := by rw [List.getD_eq_getElem?_getD, List.getElem?_take, if_pos (by omega), ← List.getD_eq_getElem?_getD]
          rw [e2, ← getD_getElem (d := 0) hlt] at e
          have := HO.out.inj j k (by omega) hkn e
          omega
      rw [hno] at HC
      clear hno hi hb hcap
      go_wp2_with (first | (go_at_call 110; refine (HI.out _).mono ?_; rintro e w3 ⟨rfl, rfl⟩) | (go_at_call 143; refine (HC.out).mono ?_; rintro e w3 ⟨rfl, rfl⟩))
      go_round
      case rel => exact ⟨k + 1, by omega, by go_num⟩
      case measure => simp [intOf]; omega
    · go_wp2
      go_ret
      exact ⟨rfl, rfl⟩

set_option maxHeartbeats 2000000 in
set_option maxRecDepth 20000 in
theorem impl_PivotPartition (v u : Value) (m : List (List Int)) (o : List Int) (w : World) (h : Sl (slR intR) w v m) (k : Sl intR w u o) (hm : WM m) (ho : OrdB m.length o) :
    Calls Tryz.prog 123 #[v, u] w fun e w2 => ∃ v2 F, e = .returned v2 ∧ OwnSl intO w2 v2 (pivotP m o) F ∧ NewF w F ∧ Ext w w2 := by
  have HA := hid (impl_IsWeightMatrix v m w h)
  have HB := hid (impl_IsOrder m.length u o w k ho hm.n1 hm.n8)
  rw [wmB_yes hm] at HA
  obtain ⟨A, cap, rfl, hm1⟩ := h.form
  obtain ⟨B, cap2, rfl, hm2⟩ := k.form
  have h1 := hm.n1
  have h8 := hm.n8
  have hol := ho.len
  have HM := hid hm
  have HH := hid h
  have HK := hid k
  have HO := hid ho
  have HOL := hid hol
  have xl : Ext w (w.alloc (.cells #[.int .i64 (-1)] 3)) := (Ext.refl _).alloc _
  have HR := hid (slices_Repeat_i (-1) m.length w.heap.size 1 _ h1 h8 (by unfold I64; omega) ((Ext.refl (w.alloc (.cells #[Value.int .i64 (-1)] 3))).box.1 0))
  have HXL := hid xl
  clear hm h k ho hol xl
  go_enter Tryz.func123, Tryz.ntmps123
  go_wp2_with fail
  refine (HA.out).mono ?_
  rintro e w2 ⟨rfl, rfl⟩
  go_wp2_with fail
  refine (HB.out).mono ?_
  rintro e w2 ⟨rfl, rfl⟩
  go_wp2_with fail
  refine (HR.out).mono ?_
  rintro e w1 ⟨v1, F1, rfl, o1, n1, x1⟩
  have HX1 := hid (HXL.out.trans x1)
  have HN1 := hid (n1.ext HXL.out)
  obtain ⟨g0, off0, cap0, e0, k1, k2, k3, k4⟩ := o1.int_store n1.1 (i := 0) (by rw [List.length_replicate]; omega)
  clear k1 k2 k3 k4
  rw [List.length_replicate] at e0
  subst e0
  have HF1 := hid n1.1
  clear n1 x1
  go_wp2_with fail
  go_loopw [26] (fun i wr => ∃ j : Nat, j ≤ m.length ∧ i = .int .i64 j ∧ OwnSl intO wr (.slice (some ⟨g0, off0, none⟩) m.length cap0) (pivN m o j) F1 ∧ Ext w wr) (fun i _ => m.length - (intOf i).toNat)
  case atStart => exact ⟨0, Nat.zero_le _, rfl, o1, HX1.out⟩
  case round =>
    clear o1
    obtain ⟨j, hj, rfl, hO, hx⟩ := hrel
    by_cases hlt : j < m.length
    · have hlo : j < o.length := by have := HOL.out; omega
      have hlo2 : (j : Int) < (o.length : Int) := by omega
      obtain ⟨b, off, eB, _, hc⟩ := (HK.out.mono hx).int hlo
      subst eB
      have hb := HO.out.bd j hlt
      obtain ⟨p, hp⟩ : ∃ p : Nat, o[j] = p := ⟨o[j].toNat, by rw [getD_getElem hlo] at hb; omega⟩
      have hpe : o.getD j 0 = p := by rw [getD_getElem hlo, hp]
      rw [hpe] at hb
      rw [hp] at hc
      have hpn : p < m.length := by omega
      have HST := hid (show pivN m o (j + 1) = pivSt m p p (pivN m o j) from by rw [pivN, hpe, Int.toNat_natCast])
      have hL := pivN_len m o j
      obtain ⟨L, hLe⟩ : ∃ L, L = pivN m o j := ⟨_, rfl⟩
      rw [← hLe] at HST hO hL
      obtain ⟨g1, off1, cap1, e1, hg1, cp, fp, hst⟩ := hO.int_store HF1.out (i := p) (by omega)
      injection e1 with e9 q1 q2
      clear q1 q2
      injection e9 with e9
      injection e9 with e8 e7 q3
      clear q3
      subst e8; subst e7
      have hlp : L[p] = L.getD p 0 := (getD_getElem (by omega)).symm
      rw [hlp] at cp
      obtain ⟨y, hy⟩ : ∃ y, y = L.getD p 0 := ⟨_, rfl⟩
      rw [← hy] at cp
      have HG1 := hid hg1
      clear hg1
      have hL0 := hid hL
      clear hp hpe hLe hlp hL
      by_cases h0 : 0 ≤ y
      · have HE := hid (show pivSt m p p L = L from by unfold pivSt; rw [if_pos (by rw [← hy]; exact h0)])
        have h0d : decide (0 ≤ y) = true := by simp [h0]
        have HOO := hid hO
        clear hO hst hy
        go_wp2
        go_roundw
        case rel => exact ⟨j + 1, by omega, by go_num, by rw [HST.out, HE.out]; exact HOO.out, hx⟩
        case measure => simp [intOf]; omega
      · have HE := hid (show pivSt m p p L = pivIn m p p L m.length from by unfold pivSt; rw [if_neg (by rw [← hy]; exact h0)])
        have h0d : decide (0 ≤ y) = false := by simp; omega
        have h0n : y < 0 := by omega
        have HO2 := hid (hst p (by unfold I64; omega))
        have hgw : w.heap.size ≤ g0 := HN1.out.2 g0 HG1.out
        have HX2 := hid (hx.setCell (p := ⟨g0, off0 + p, none⟩) hgw (.int .i64 p))
        obtain ⟨bm, om, Ar, cr, eA, hrow, cm0⟩ := HH.out.sl hpn
        subst eA
        have hrl : m[p].length = m.length := by have := HM.out.row p hpn; rwa [row_at hpn] at this
        obtain ⟨ba, oa, eAr, k1, k2⟩ := hrow.int (i := 0) (by omega)
        clear k1 k2
        subst eAr
        have cm := HX2.out.cell cm0
        have HROW := hid (fun (W : World) (y : Ext w W) => hrow.mono y)
        rw [hrl] at cm
        have HRL := hid hrl
        have HGW := hid hgw
        have HLL := hid hL0.out
        clear hO hst hy hx hrow hrl h0 cm0 hgw
        go_wp2_with fail
        go_loopw [44] (fun i wr => ∃ q : Nat, q ≤ m.length ∧ i = .int .i64 q ∧ OwnSl intO wr (.slice (some ⟨g0, off0, none⟩) m.length cap0) (pivIn m p p L q) F1 ∧ Ext w wr) (fun i _ => m.length - (intOf i).toNat)
        case atStart => exact ⟨0, Nat.zero_le _, rfl, HO2.out, HX2.out⟩
        case round =>
          clear cm
          obtain ⟨q, hq, rfl, hO, hx⟩ := hrel
          by_cases hqm : q < m.length
          · have hqr : q < m[p].length := by have := HRL.out; omega
            obtain ⟨ba2, oa2, eAr, _, cm2⟩ := (HROW.out _ hx).int hqr
            injection eAr with e9
            injection e9 with e8 e7 q3
            clear q3
            subst e8; subst e7
            have hLq := pivIn_len m p p L q
            obtain ⟨Q, hQ⟩ : ∃ Q, Q = pivIn m p p L q := ⟨_, rfl⟩
            have HS := hid (show pivIn m p p L (q + 1) = if 0 < ent m p q ∧ Q.getD q 0 < 0 then Q.set q p else Q from by rw [pivIn, hQ])
            rw [← hQ] at hO hLq
            obtain ⟨g2, off2, cap2, e1, _, cp, fp, hst⟩ := hO.int_store HF1.out (i := q) (by have := HLL.out; omega)
            injection e1 with e9 q1 q2
            clear q1 q2
            injection e9 with e9
            injection e9 with e8 e7 q3
            clear q3
            subst e8; subst e7
            have hlq : Q[q]'(by have := HLL.out; omega) = Q.getD q 0 := (getD_getElem (by have := HLL.out; omega)).symm
            rw [hlq] at cp
            rw [ent_at hpn hqr] at HS
            obtain ⟨x, hxe⟩ : ∃ x, x = m[p][q] := ⟨_, rfl⟩
            obtain ⟨z, hz⟩ : ∃ z, z = Q.getD q 0 := ⟨_, rfl⟩
            rw [← hxe] at HS cm2
            rw [← hz] at HS cp
            clear hQ hlq hxe hz hLq
            by_cases hx0 : 0 < x
            · have hx0d : decide (0 < x) = true := by simp [hx0]
              by_cases hz0 : z < 0
              · have hz0d : decide (z < 0) = true := by simp [hz0]
                have HE := hid (show pivIn m p p L (q + 1) = Q.set q p from by rw [HS.out, if_pos ⟨hx0, hz0⟩])
                have HO3 := hid (hst p (by unfold I64; omega))
                have HX3 := hid (hx.setCell (p := ⟨g0, off0 + q, none⟩) (HGW.out) (.int .i64 p))
                clear hO hst hx hx0 hz0
                go_wp2
                go_roundw
                case rel => exact ⟨q + 1, by omega, by go_num, by rw [HE.out]; exact HO3.out, HX3.out⟩
                case measure => simp [intOf]; omega
              · have hz0d : decide (z < 0) = false := by simp; omega
                have HE := hid (show pivIn m p p L (q + 1) = Q from by rw [HS.out, if_neg fun h => hz0 h.2])
                have HO3 := hid hO
                clear hO hst hx0 hz0
                go_wp2
                go_roundw
                case rel => exact ⟨q + 1, by omega, by go_num, by rw [HE.out]; exact HO3.out, hx⟩
                case measure => simp [intOf]; omega
            · have hx0d : decide (0 < x) = false := by simp; omega
              have HE := hid (show pivIn m p p L (q + 1) = Q from by rw [HS.out, if_neg fun h => hx0 h.1])
              have HO3 := hid hO
              clear hO hst hx0
              go_wp2
              go_roundw
              case rel => exact ⟨q + 1, by omega, by go_num, by rw [HE.out]; exact HO3.out, hx⟩
              case measure => simp [intOf]; omega
          · have hqm2 : q = m.length := by omega
            subst hqm2
            have HO3 := hid hO
            clear hO
            go_wp2
            go_roundw
            case rel => exact ⟨j + 1, by omega, by go_num, by rw [HST.out, HE.out]; exact HO3.out, hx⟩
            case measure => simp [intOf]; omega
    · have hjm : j = m.length := by omega
      subst hjm
      have hlo2 : ¬ ((m.length : Int) < (o.length : Int)) := by have := HOL.out; omega
      have hbdN := pivN_bd HO.out m.length (Nat.le_refl _)
      have HCL := hid (impl_CanonicalLabels _ _ _ hO.sl (by rw [pivN_len]; omega))
      clear hO hbdN
      go_wp2_with fail
      refine (HCL.out).mono ?_
      rintro e w4 ⟨v4, F4, rfl, o4, n4, x4⟩
      go_wp2
      go_ret
      exact ⟨v4, F4, rfl, o4, n4.ext hx, hx.trans x4⟩

theorem rot_take (n s k : Nat) (hk : k < n) : (rotL n s).take (k + 1) = (rotL n s).take k ++ [(((s + k) % n : Nat) : Int)] := by
  rw [List.take_succ_eq_append_getElem (by unfold rotL; simp; exact hk)]
  congr 2
  unfold rotL
  simp
set_option maxHeartbeats 2000000 in
set_option maxRecDepth 20000 in
theorem impl_BestPivot (v : Value) (m : List (List Int)) (w : World) (h : Sl (slR intR) w v m) (hm : WM m) :
    Calls Tryz.prog 83 #[v] w fun e w2 => ∃ v2 F, e = .returned (.tuple #[v2, .int .i64 (bpN m m.length).2]) ∧ OwnSl intO w2 v2 (bpN m m.length).1 F ∧ NewF w F ∧ Ext w w2 := by
  have HA := hid (impl_IsWeightMatrix v m w h)
  rw [wmB_yes hm] at HA
  obtain ⟨A, cap, rfl, hm1⟩ := h.form
  have h1 := hm.n1
  have h8 := hm.n8
  have HM := hid hm
  have HH := hid h
  clear hm h
  go_enter Tryz.func83, Tryz.ntmps83
  go_wp2_with fail
  refine (HA.out).mono ?_
  rintro e w2 ⟨rfl, rfl⟩
  go_wp2_with fail
  go_loopw [4, 5, 16] (fun t c i wr => ∃ (s : Nat) (F : List Nat), s ≤ m.length ∧ i = .int .i64 s ∧ OwnSl intO wr t (bpN m s).1 F ∧ NewF w F ∧ c = .int .i64 (bpN m s).2 ∧ Ext w wr) (fun _ _ i _ => m.length - (intOf i).toNat)
  case atStart => exact ⟨0, [], Nat.zero_le _, rfl, .inl ⟨rfl, rfl, none, 0, rfl, Nat.zero_le _⟩, .nil _, rfl, Ext.refl _⟩
  case round =>
    obtain ⟨s, F, hs, rfl, hO, hN, rfl, hx⟩ := hrel
    by_cases hlt : s < m.length
    · have HO := hid hO
      have HN := hid hN
      obtain ⟨w0, hw0⟩ : ∃ w0, w0 = wr := ⟨_, rfl⟩
      rw [← hw0] at HO hx ⊢
      have HX := hid hx
      have HST := hid (show bpN m (s + 1) = bpSt m (bpN m s) s from rfl)
      obtain ⟨T, hT⟩ : ∃ T, T = bpN m s := ⟨_, rfl⟩
      rw [← hT] at HST HO
      have hcT : s = 0 ∧ T.2 = -1 ∨ 0 ≤ T.2 ∧ T.2 ≤ 64000 := by
        by_cases h0 : s = 0
        · subst h0
          left; rw [hT]; exact ⟨rfl, rfl⟩
        · obtain ⟨_, f2, f3⟩ := bpN_facts m s (by omega)
          right
          rw [hT, f3]
          exact costP_le HM.out (by omega)
      have HT := hid hT
      clear hw0 hO hN hx hT
      go_wp2_with fail
      go_loopw [7, 21] (fun t i wr => ∃ k : Nat, k ≤ m.length ∧ i = .int .i64 k ∧ Bld intO wr w0.heap.size 3 t ((rotL m.length s).take k) [] ∧ Ext w0 wr) (fun _ i _ => m.length - (intOf i).toNat)
      case atStart => exact ⟨0, Nat.zero_le _, rfl, Bld.nil _ _ _, Ext.refl _⟩
      case round =>
        obtain ⟨k, hk, rfl, hB, hx⟩ := hrel
        by_cases hkm : k < m.length
        · have HR := hid (rot_take m.length s k hkm)
          have hln : ((rotL m.length s).take k).length = k := by rw [List.length_take]; unfold rotL; simp; omega
          have hrem : Int.tmod ((s : Int) + (k : Int)) (m.length : Int) = (((s + k) % m.length : Nat) : Int) := by
            rw [Int.tmod_eq_emod_of_nonneg (by omega)]; simp
          have hml : (s + k) % m.length < m.length := Nat.mod_lt _ (by omega)
          have hne : ¬ ((m.length : Int) = 0) := by omega
          have HSZ := hid (show ((rotL m.length s).take k).length + 1 ≤ 1099511627776 by omega)
          have HI := hid (show I64 (((s + k) % m.length : Nat) : Int) from by unfold I64; omega)
          clear hln
          go_wp2_with (at_builtin; refine wpList_app1 (R := intO) elemInt (by decide) rfl _ _ rfl hB rfl _ 1 rfl (by simp) (one_int _) (y := (((s + k) % m.length : Nat) : Int)) (own_int _ _ HI.out) fresh_nil HSZ.out (by decide) hx.size ?_; intro v9 w9 hB9 hE9)
          go_roundw
          case rel => exact ⟨k + 1, by omega, by go_num, by rw [HR.out]; exact hB9, hE9 w0 (Nat.le_refl _) hx⟩
          case measure => simp [intOf]; omega
        · have hrl : (rotL m.length s).take k = rotL m.length s := List.take_of_length_le (by unfold rotL; simp; omega)
          rw [hrl] at hB
          have HB := hid hB
          have HPP := hid (impl_PivotPartition _ _ m (rotL m.length s) wr (HH.out.mono (HX.out.trans hx)) hB.sl HM.out (rotL_ord hlt))
          clear hB hrl
          go_wp2_with fail
          refine (HPP.out).mono ?_
          rintro e w3 ⟨v3, F3, rfl, o3, n3, x3⟩
          have HPC := hid (impl_partitionCost _ _ m (pivotP m (rotL m.length s)) w3 (HH.out.mono (HX.out.trans (hx.trans x3))) o3.sl HM.out (by rw [(pivotP_facts m _).2]; exact Nat.le_refl _))
          have hcc := costP_le HM.out (p := pivotP m (rotL m.length s)) (by rw [(pivotP_facts m _).2]; exact Nat.le_refl _)
          have HST2 := hid (show bpN m (s + 1) = if T.2 < 0 ∨ costP m (pivotP m (rotL m.length s)) < T.2 then (pivotP m (rotL m.length s), costP m (pivotP m (rotL m.length s))) else T from HST.out)
          obtain ⟨c, hc⟩ : ∃ c, c = costP m (pivotP m (rotL m.length s)) := ⟨_, rfl⟩
          rw [← hc] at HPC hcc HST2
          obtain ⟨PV, hPV⟩ : ∃ PV, PV = pivotP m (rotL m.length s) := ⟨_, rfl⟩
          rw [← hPV] at HST2 o3
          obtain ⟨A3, c3, e3, _⟩ := o3.form
          subst e3
          have HX3 := hid (HX.out.trans (hx.trans x3))
          have HO3 := hid o3
          have HN3 := hid (n3.ext (HX.out.trans hx))
          have HXQ := hid (hx.trans x3)
          clear hc hPV o3 n3 x3 hx
          go_wp2_with fail
          refine (HPC.out).mono ?_
          rintro e w4 ⟨rfl, x4⟩
          by_cases hb : T.2 < 0 ∨ c < T.2
          · have hcase : decide (T.2 < 0) = true ∨ (decide (T.2 < 0) = false ∧ decide (c < T.2) = true) := by
              by_cases h : T.2 < 0
              · exact .inl (by simp [h])
              · exact .inr ⟨by simp [h], by simp; omega⟩
            have HE := hid (show bpN m (s + 1) = (PV, c) from by rw [HST2.out, if_pos hb])
            clear hb
            rw [← HT.out]
            rcases hcase with hd | ⟨hd, hd2⟩
            · go_wp2
              go_roundw
              case rel => exact ⟨s + 1, F3, by omega, by go_num, by rw [HE.out]; exact HO3.out.ext x4, HN3.out, by rw [HE.out], HX3.out.trans x4⟩
              case measure => simp [intOf]; omega
            · go_wp2
              go_roundw
              case rel => exact ⟨s + 1, F3, by omega, by go_num, by rw [HE.out]; exact HO3.out.ext x4, HN3.out, by rw [HE.out], HX3.out.trans x4⟩
              case measure => simp [intOf]; omega
          · have hd : decide (T.2 < 0) = false := by simp; omega
            have hd2 : decide (c < T.2) = false := by simp; omega
            have HE := hid (show bpN m (s + 1) = T from by rw [HST2.out, if_neg hb])
            clear hb
            rw [← HT.out]
            go_wp2
            go_roundw
            case rel => exact ⟨s + 1, F, by omega, by go_num, by rw [HE.out]; exact HO.out.ext (HXQ.out.trans x4), HN.out, by rw [HE.out], HX3.out.trans x4⟩
            case measure => simp [intOf]; omega
    · have hsm : s = m.length := by omega
      subst hsm
      obtain ⟨A4, c4, e4, _⟩ := hO.form
      subst e4
      have HO := hid hO
      clear hO
      go_wp2_with fail
      refine bodyPost_ret (v := .tuple #[.slice A4 (bpN m m.length).1.length c4, .int .i64 (bpN m m.length).2]) (by simp [results, Tryz.results83, go_sem]) rfl ?_
      exact ⟨_, F, rfl, HO.out, hN, hx⟩
end Go.Proofs.YtidchfncfcckiaaGreat

namespace Go.Proofs.YtidchfncfcckiaaGreat
open Go.RowKit

theorem KeepB.trans {w0 w1 w2 : World} {bs : List Nat} (h : KeepB w0 w1 bs) (k : KeepB w1 w2 bs) : KeepB w0 w2 bs :=
  ⟨Nat.le_trans h.1 k.1, fun b hb hn => (k.2 b (Nat.lt_of_lt_of_le hb h.1) hn).trans (h.2 b hb hn)⟩
theorem KeepB.of_ext {w w2 : World} {bs : List Nat} (x : Ext w w2) : KeepB w w2 bs := (KeepB.refl w bs).ext x
structure WalkJ (wE w0 : World) (gs : Nat) (vm vc : Value) (w : World) (S : List Int × Int × Int) : Prop where
  blk : ∃ v F, Blk w gs 100 [vm, vc, v, .int .i64 S.2.1, .int .i64 S.2.2] ∧ OwnSl intO w v S.1 F ∧ NewF w0 F
  ext : Ext wE w
  keep : KeepB w0 w [gs]
  bd : -1 ≤ S.2.1 ∧ S.2.1 ≤ 64000 ∧ 0 ≤ S.2.2
theorem WalkJ.mono {wE w0 w w2 : World} {gs : Nat} {vm vc : Value} {S : List Int × Int × Int} (h : WalkJ wE w0 gs vm vc w S) (x : Ext w w2) : WalkJ wE w0 gs vm vc w2 S := by
  obtain ⟨v, F, f1, f2, f3⟩ := h.blk
  exact ⟨⟨v, F, f1.ext x, f2.ext x, f3⟩, h.ext.trans x, h.keep.ext x, h.bd⟩
theorem WalkJ.cells {wE w0 w : World} {gs : Nat} {vm vc : Value} {S : List Int × Int × Int} (h : WalkJ wE w0 gs vm vc w S) : w.cell? ⟨gs, 0, none⟩ = some vm ∧ w.cell? ⟨gs, 1, none⟩ = some vc ∧ w.cell? ⟨gs, 3, none⟩ = some (.int .i64 S.2.1) ∧ w.cell? ⟨gs, 4, none⟩ = some (.int .i64 S.2.2) ∧ ∀ i, w.frozen? ⟨gs, i, none⟩ = false := by
  obtain ⟨v, F, f1, f2, f3⟩ := h.blk
  exact ⟨f1.cells.1 0, f1.cells.1 1, f1.cells.1 3, f1.cells.1 4, f1.cells.2⟩
theorem WalkJ.count {wE w0 w : World} {gs : Nat} {vm vc : Value} {S : List Int × Int × Int} (h : WalkJ wE w0 gs vm vc w S) (h1 : gs < w0.heap.size) (h2 : wE.heap.size ≤ gs) {x : Int} (hx : 0 ≤ x) : WalkJ wE w0 gs vm vc (w.setCell ⟨gs, 4, none⟩ (.int .i64 x)) (S.1, S.2.1, x) := by
  obtain ⟨v, F, f1, f2, f3⟩ := h.blk
  refine ⟨⟨v, F, Blk.store (done := [vm, vc, v, .int .i64 S.2.1]) f1 rfl _, f2.setCell (fun hm => ?_) _, f3⟩, h.ext.setCell h2 _, h.keep.set (by simp) _, ⟨h.bd.1, h.bd.2.1, hx⟩⟩
  have := f3.2 _ hm
  dsimp only at *
  omega
/-- a better one is found -/
theorem WalkJ.better {wE w0 w : World} {gs : Nat} {vm vc : Value} {S : List Int × Int × Int} (h : WalkJ wE w0 gs vm vc w S) (h1 : gs < w0.heap.size) (h2 : wE.heap.size ≤ gs) {v : Value} {q : List Int} {F : List Nat} (ho : OwnSl intO w v q F) (hF : NewF w0 F) {c : Int} (hc : -1 ≤ c ∧ c ≤ 64000) :
    (∃ u, w.cell? ⟨gs, 2, none⟩ = some u) ∧ (w.setCell ⟨gs, 2, none⟩ v).cell? ⟨gs, 3, none⟩ = some (.int .i64 S.2.1) ∧ (w.setCell ⟨gs, 2, none⟩ v).frozen? ⟨gs, 3, none⟩ = false ∧
    ((w.setCell ⟨gs, 2, none⟩ v).setCell ⟨gs, 3, none⟩ (.int .i64 c)).cell? ⟨gs, 4, none⟩ = some (.int .i64 S.2.2) ∧ ((w.setCell ⟨gs, 2, none⟩ v).setCell ⟨gs, 3, none⟩ (.int .i64 c)).frozen? ⟨gs, 4, none⟩ = false ∧
    WalkJ wE w0 gs vm vc (((w.setCell ⟨gs, 2, none⟩ v).setCell ⟨gs, 3, none⟩ (.int .i64 c)).setCell ⟨gs, 4, none⟩ (.int .i64 0)) (q, c, 0) := by
  obtain ⟨v0, F0, f1, f2, f3⟩ := h.blk
  have k1 : gs ∉ F := fun hm => by have := hF.2 _ hm; omega
  have b1 := Blk.store (done := [vm, vc]) f1 rfl v
  have b2 := Blk.store (done := [vm, vc, v]) b1 rfl (.int .i64 c)
  have b3 := Blk.store (done := [vm, vc, v, .int .i64 c]) b2 rfl (.int .i64 0)
  refine ⟨⟨_, f1.cells.1 2⟩, b1.cells.1 3, b1.cells.2 3, b2.cells.1 4, b2.cells.2 4, ⟨v, F, b3, ((ho.setCell k1 _).setCell k1 _).setCell k1 _, hF⟩, ((h.ext.setCell h2 _).setCell h2 _).setCell h2 _, ((h.keep.set (by simp) _).set (by simp) _).set (by simp) _, ⟨hc.1, hc.2, Int.le_refl _⟩⟩

def walkSt (m : List (List Int)) (l : List Constraint) (r : Nat) (q : List Int) (nx : Nat) (s : List Int × Int × Int) (x : Nat) : List Int × Int × Int :=
  if lastOk (q ++ [(x : Int)]) l = true then walkF m l r (q ++ [(x : Int)]) (max nx (x + 1)) (costP m (q ++ [(x : Int)])) s else s
theorem walkF_cnt (m : List (List Int)) (l : List Constraint) : ∀ (r : Nat) (q : List Int) (nx : Nat) (c : Int) (S : List Int × Int × Int), 0 ≤ S.2.2 → 0 ≤ (walkF m l r q nx c S).2.2 ∧ (walkF m l r q nx c S).2.2 ≤ S.2.2 + (leaves r q nx).length
  | 0, q, nx, c, S, h => by
    rw [walkF, leaves, List.length_singleton]
    split
    · omega
    · split
      · dsimp only; omega
      · dsimp only; omega
  | r + 1, q, nx, c, S, h => by
    rw [walkF, leaves]
    split
    · omega
    · have key : ∀ (xs : List Nat) (S : List Int × Int × Int), 0 ≤ S.2.2 → 0 ≤ (xs.foldl (walkSt m l r q nx) S).2.2 ∧ (xs.foldl (walkSt m l r q nx) S).2.2 ≤ S.2.2 + (xs.flatMap fun (x : Nat) => leaves r (q ++ [(x : Int)]) (max nx (x + 1))).length := by
        intro xs
        induction xs with
        | nil => intro S h; simp; exact h
        | cons x xs ih =>
          intro S h
          rw [List.foldl_cons, List.flatMap_cons, List.length_append]
          have h1 : 0 ≤ (walkSt m l r q nx S x).2.2 ∧ (walkSt m l r q nx S x).2.2 ≤ S.2.2 + (leaves r (q ++ [(x : Int)]) (max nx (x + 1))).length := by
            unfold walkSt
            split
            · exact walkF_cnt m l r _ _ _ S h
            · omega
          have := ih _ h1.1
          omega
      exact key _ S h
theorem walk_cnt (m : List (List Int)) (l : List Constraint) (r : Nat) (q : List Int) (nx : Nat) (S : List Int × Int × Int) (h : 0 ≤ S.2.2) (k : Nat) (hk : k ≤ nx) (hb : S.2.2 + (leaves (r + 1) q nx).length ≤ 1099511627776) :
    ((List.range k).foldl (walkSt m l r q nx) S).2.2 + (leaves r (q ++ [(k : Int)]) (max nx (k + 1))).length ≤ 1099511627776 := by
  have key : ∀ k, 0 ≤ ((List.range k).foldl (walkSt m l r q nx) S).2.2 ∧ ((List.range k).foldl (walkSt m l r q nx) S).2.2 ≤ S.2.2 + ((List.range k).flatMap fun (x : Nat) => leaves r (q ++ [(x : Int)]) (max nx (x + 1))).length := by
    intro k
    induction k with
    | zero => simp; exact h
    | succ k ih =>
      rw [List.range_succ, List.foldl_append, List.flatMap_append, List.length_append, List.foldl_cons, List.foldl_nil, List.flatMap_singleton]
      obtain ⟨T, hT⟩ : ∃ T, T = (List.range k).foldl (walkSt m l r q nx) S := ⟨_, rfl⟩
      rw [← hT] at ih ⊢
      have h1 : 0 ≤ (walkSt m l r q nx T k).2.2 ∧ (walkSt m l r q nx T k).2.2 ≤ T.2.2 + (leaves r (q ++ [(k : Int)]) (max nx (k + 1))).length := by
        unfold walkSt
        split
        · exact walkF_cnt m l r _ _ _ _ ih.1
        · have := ih.1; omega
      omega
  have h1 := (key k).2
  have h2 : ((List.range k).flatMap fun (x : Nat) => leaves r (q ++ [(x : Int)]) (max nx (x + 1))).length + (leaves r (q ++ [(k : Int)]) (max nx (k + 1))).length ≤ (leaves (r + 1) q nx).length := by
    rw [leaves]
    have e : List.range (nx + 1) = List.range (k + 1) ++ ((List.range (nx - k)).map (k + 1 + ·)) := by
      rw [show nx + 1 = (k + 1) + (nx - k) by omega, List.range_add]
    rw [e, List.flatMap_append, List.length_append, List.range_succ, List.flatMap_append, List.length_append, List.flatMap_singleton]
    omega
  omega
/-- the cost of one label more -/
def addF (m : List (List Int)) (q : List Int) (x : Int) (k : Nat) : Int := if x = q.getD k 0 then max 0 (-(ent m q.length k)) else max 0 (ent m q.length k)
theorem addF_bd {m : List (List Int)} (hm : WM m) {q : List Int} (hq : q.length < m.length) (x : Int) (k : Nat) (hk : k ≤ q.length) : 0 ≤ sumN (addF m q x) k ∧ sumN (addF m q x) k ≤ 8000 := by
  have h8 := hm.n8
  have h1 := sumN_le (f := addF m q x) (c := 1000) k fun j hj => by
    have := hm.bd q.length j hq (by omega)
    unfold addF
    split <;> omega
  have h2 := sumN_nn (f := addF m q x) k fun j hj => by unfold addF; split <;> omega
  omega
end Go.Proofs.YtidchfncfcckiaaGreat

namespace Go.Proofs.YtidchfncfcckiaaGreat
open Go.RowKit

noncomputable def startP (m : List (List Int)) (l : List Constraint) : List Int := if keepsB (bpN m m.length).1 l = true then (bpN m m.length).1 else mustL m.length l
noncomputable def partP (m : List (List Int)) (l : List Constraint) : List Int := if m.length ≤ 6 then (bestF m l).1 else impP m l (startP m l)
theorem start_part {m : List (List Int)} {l : List Constraint} (hm : WM m) (hl : areConB m.length l = true) : partB (startP m l) = true ∧ (startP m l).length = m.length := by
  unfold startP
  split
  · obtain ⟨h1, h2, _⟩ := bpN_facts m m.length hm.n1
    exact ⟨partB_iff.2 ⟨h1, by rw [h2]; exact hm.n1, by rw [h2]; exact hm.n8⟩, h2⟩
  · have e : mustL m.length l = compL m.length (mustR l) := by unfold mustL; rw [if_pos hl, Int.toNat_natCast]
    rw [e]
    exact ⟨compL_part hm.n1 hm.n8, (compL_is _ _).1⟩


/-! ### Consistent constraints can be kept -/
theorem must_keeps {n : Nat} {l : List Constraint} (h : consistB n l = true) : keepsB (mustL n l) l = true := by
  have ha : areConB n l = true := by unfold consistB at h; rw [Bool.and_eq_true] at h; exact h.1
  have hc := (consist_iff ha).1 h
  have hlen := mustL_len ha
  rw [Int.toNat_natCast] at hlen
  obtain ⟨h1, h8, h10, h4⟩ := areCon_iff.1 ha
  unfold keepsB
  rw [List.all_eq_true]
  intro c hcl
  have hb := h4 c hcl
  unfold keepC
  rw [decide_eq_true hb.1, decide_eq_true (by omega), decide_eq_true hb.2.2.1, decide_eq_true (by omega), Bool.and_self, Bool.and_self, Bool.true_and]
  have hconn := mustL_conn ha (i := c.a.toNat) (j := c.b.toNat) (by omega) (by omega)
  cases hs : c.same with
  | true =>
    rw [beq_iff_eq, beq_iff_eq]
    exact hconn.2 (.one ⟨c, hcl, hs, .inl ⟨by omega, by omega⟩⟩)
  | false =>
    rw [beq_iff_eq, beq_eq_false_iff_ne]
    exact fun e => hc c hcl hs (hconn.1 e)
/-- the constraints of some items are consistent if all are -/
theorem restr_consist {n : Nat} {l : List Constraint} {it : List Int} (hi : ItemsB n it) (hn : n ≤ 8) (h : consistB n l = true) : consistB it.length (restrC l it) = true := by
  have ha : areConB n l = true := by unfold consistB at h; rw [Bool.and_eq_true] at h; exact h.1
  have hr := restr_con hi hn ha
  refine (consist_iff hr).2 fun d hd hs hco => ?_
  obtain ⟨c, hc, i, k, hil, hkl, e1, f1, e2, f2, rfl⟩ := restr_mem.1 hd
  dsimp only at hs hco
  have hb := (areCon_iff.1 ha).2.2.2 c hc
  refine (consist_iff ha).1 h c hc hs ?_
  rw [Int.toNat_natCast, Int.toNat_natCast] at hco
  have key : ∀ a b : Nat, Conn (mustR (restrC l it)) a b → a < it.length → b < it.length ∧ Conn (mustR l) (it.getD a 0).toNat (it.getD b 0).toNat := fun a b hab => by
    induction hab with
    | refl => intro ha; exact ⟨ha, .refl⟩
    | step _ hl ih =>
      intro ha9
      obtain ⟨hb9, hc9⟩ := ih ha9
      have hsym := hl.imp id mustR_symm
      have h3 : ∀ x y : Nat, mustR (restrC l it) x y → y < it.length ∧ mustR l (it.getD x 0).toNat (it.getD y 0).toNat := fun x y hxy => by
        obtain ⟨d, hd, hds, hdd⟩ := hxy
        obtain ⟨c2, hc2, i2, k2, hi2, hk2, _, _, g1, g2, rfl⟩ := restr_mem.1 hd
        dsimp only at hds hdd
        have hb2 := (areCon_iff.1 ha).2.2.2 c2 hc2
        rcases hdd with ⟨p1, p2⟩ | ⟨p1, p2⟩
        · have q1 : i2 = x := by omega
          have q2 : k2 = y := by omega
          subst q1; subst q2
          exact ⟨hk2, c2, hc2, hds, .inl ⟨by omega, by omega⟩⟩
        · have q1 : i2 = y := by omega
          have q2 : k2 = x := by omega
          subst q1; subst q2
          exact ⟨hi2, c2, hc2, hds, .inr ⟨by omega, by omega⟩⟩
      have h4 := h3 _ _ (hsym.elim id id)
      exact ⟨h4.1, hc9.trans (.one h4.2)⟩
  have h5 := (key i k hco hil).2
  rw [e2, f2] at h5
  exact h5
/-- how a part is clustered: a partition of it that keeps the constraints; the best one of few items -/
theorem partP_facts {m : List (List Int)} {l : List Constraint} (hm : WM m) (h : consistB m.length l = true) :
    partB (partP m l) = true ∧ (partP m l).length = m.length ∧ keepsB (partP m l) l = true ∧ (m.length ≤ 6 → costP m (partP m l) = (bestF m l).2.1 ∧ 0 ≤ (bestF m l).2.1) := by
  have ha : areConB m.length l = true := by unfold consistB at h; rw [Bool.and_eq_true] at h; exact h.1
  have hk := must_keeps h
  have hlen := mustL_len ha
  rw [Int.toNat_natCast] at hlen
  unfold partP
  by_cases h6 : m.length ≤ 6
  · rw [if_pos h6]
    have hb := (bestF_le hlen hk).1
    obtain ⟨b1, b2, b3, b4⟩ := bestF_is hb
    exact ⟨partB_iff.2 ⟨b3, by rw [b4]; exact hm.n1, by rw [b4]; exact hm.n8⟩, b4, b1, fun _ => ⟨b2.symm, hb⟩⟩
  · rw [if_neg h6]
    obtain ⟨s1, s2⟩ := start_part hm ha
    obtain ⟨i1, i2, i3⟩ := impN_facts m l 100 (startP m l) s1
    refine ⟨i1, i2.trans s2, i3 ?_, fun h => absurd h h6⟩
    unfold startP
    split
    · assumption
    · exact hk

/-! ### The blocks -/
theorem itemsOf_items {p : List Int} (hp : RG p) {x : Nat} (hx : (x : Int) < nextOf p) : ItemsB p.length (itemsOf p p.length x) ∧ ∀ i, i < (itemsOf p p.length x).length → p.getD ((itemsOf p p.length x).getD i 0).toNat 0 = x := by
  obtain ⟨q, hq⟩ : ∃ q, q = (List.range p.length).filter fun i => decide (p.getD i 0 = (x : Int)) := ⟨_, rfl⟩
  have hI : itemsOf p p.length x = q.map (fun i : Nat => (i : Int)) := by rw [hq]; rfl
  have hmem : ∀ i, i ∈ q ↔ i < p.length ∧ p.getD i 0 = x := fun i => by rw [hq, List.mem_filter, List.mem_range, decide_eq_true_eq]
  have hlt : q.Pairwise (· < ·) := by rw [hq]; exact List.pairwise_lt_range.filter _
  have hg : ∀ i (hi : i < q.length), (q.map (fun i : Nat => (i : Int))).getD i 0 = (q[i] : Nat) := fun i hi => by rw [getD_getElem (by rw [List.length_map]; exact hi), List.getElem_map]
  rw [hI]
  refine ⟨⟨?_, fun i hi => ?_, fun i j hij hj => ?_⟩, fun i hi => ?_⟩
  · rw [List.length_map]
    have := hp.mem (by omega : 0 ≤ (x : Int)) hx
    obtain ⟨i, hi, e⟩ := mem_getD this
    have : i ∈ q := (hmem i).2 ⟨hi, e⟩
    exact List.length_pos_of_mem this
  · rw [List.length_map] at hi
    rw [hg i hi]
    have := (hmem q[i]).1 (List.getElem_mem hi)
    omega
  · rw [List.length_map] at hj
    rw [hg i (by omega), hg j hj]
    have := List.pairwise_iff_getElem.1 hlt i j (by omega) hj hij
    omega
  · rw [List.length_map] at hi
    rw [hg i hi, Int.toNat_natCast]
    exact ((hmem q[i]).1 (List.getElem_mem hi)).2
theorem blocks_row {p : List Int} (hp : RG p) {x : Nat} (hx : x < (blocksP p).length) : ItemsB p.length ((blocksP p).getD x []) ∧ (∀ i, i < ((blocksP p).getD x []).length → p.getD (((blocksP p).getD x []).getD i 0).toNat 0 = x) := by
  obtain ⟨h1, h2⟩ := blkN_facts hp p.length (Nat.le_refl _)
  rw [List.take_length] at h1
  rw [show (blocksP p).getD x [] = itemsOf p p.length x from h2 x hx]
  exact itemsOf_items hp (by unfold blocksP at hx; omega)

/-! ### All parts together -/
def labSt (it part : List Int) (j : Nat) (L : List Int) : Nat → List Int
  | 0 => L
  | i + 1 => (labSt it part j L i).set (it.getD i 0).toNat ((j : Int) * 8 + part.getD i 0)
noncomputable def labN (m : List (List Int)) (l : List Constraint) (bs : List (List Int)) : Nat → List Int
  | 0 => List.replicate m.length 0
  | j + 1 => labSt (bs.getD j []) (partP (subM m (bs.getD j [])) (restrC l (bs.getD j []))) j (labN m l bs j) (bs.getD j []).length
noncomputable def labP (m : List (List Int)) (l : List Constraint) : List Int := labN m l (blocksP (searchP m l)) (blocksP (searchP m l)).length
def exactN (bs : List (List Int)) : Nat → Bool
  | 0 => true
  | j + 1 => exactN bs j && decide ((bs.getD j []).length ≤ 6)
structure Clust where
  labels : List Int
  cost : Int
  exact : Bool
  gap : Int
noncomputable def clExact (m : List (List Int)) (l : List Constraint) : Bool := exactN (blocksP (searchP m l)) (blocksP (searchP m l)).length
noncomputable def clLab (m : List (List Int)) (l : List Constraint) : List Int := canonL (labP m l)
noncomputable def clGap (m : List (List Int)) (l : List Constraint) : Int := if clExact m l = true then 0 else gapP m (clLab m l)
noncomputable def clusterP (m : List (List Int)) (l : List Constraint) : Clust × Bool := if wmB m && consistB m.length l then (⟨clLab m l, costP m (clLab m l), clExact m l, clGap m l⟩, true) else (⟨[], 0, false, 0⟩, false)
theorem labSt_len (it part : List Int) (j : Nat) (L : List Int) : ∀ i, (labSt it part j L i).length = L.length
  | 0 => rfl
  | i + 1 => by rw [labSt, List.length_set]; exact labSt_len it part j L i
theorem labN_len (m : List (List Int)) (l : List Constraint) (bs : List (List Int)) : ∀ j, (labN m l bs j).length = m.length
  | 0 => List.length_replicate
  | j + 1 => by rw [labN, labSt_len, labN_len m l bs j]
theorem clLab_part {m : List (List Int)} (l : List Constraint) (hm : WM m) : partB (clLab m l) = true ∧ (clLab m l).length = m.length := by
  have h : (clLab m l).length = m.length := by unfold clLab labP; rw [canonL_len, labN_len]
  exact ⟨partB_iff.2 ⟨canonL_RG _, by rw [h]; exact hm.n1, by rw [h]; exact hm.n8⟩, h⟩
/-- a part, its items, its constraints -/
theorem part_of {m : List (List Int)} {l : List Constraint} (hm : WM m) (h : consistB m.length l = true) {j : Nat} (hj : j < (blocksP (searchP m l)).length) :
    ItemsB m.length ((blocksP (searchP m l)).getD j []) ∧ WM (subM m ((blocksP (searchP m l)).getD j [])) ∧ consistB ((blocksP (searchP m l)).getD j []).length (restrC l ((blocksP (searchP m l)).getD j [])) = true := by
  have ha : areConB m.length l = true := by unfold consistB at h; rw [Bool.and_eq_true] at h; exact h.1
  obtain ⟨f1, f2, _⟩ := searchP_facts (wmB_yes hm) ha
  have hr := (blocks_row (partB_iff.1 f1).1 hj).1
  rw [f2] at hr
  exact ⟨hr, subM_wm hm hr, restr_consist hr hm.n8 h⟩
theorem clusterP_no {m : List (List Int)} {l : List Constraint} (h : (wmB m && consistB m.length l) = false) : clusterP m l = (⟨[], 0, false, 0⟩, false) := by unfold clusterP; rw [h]; rfl
theorem clusterP_yes {m : List (List Int)} {l : List Constraint} (h : (wmB m && consistB m.length l) = true) : clusterP m l = (⟨clLab m l, costP m (clLab m l), clExact m l, clGap m l⟩, true) := by unfold clusterP; rw [h]; rfl
end Go.Proofs.YtidchfncfcckiaaGreat

namespace Go.Proofs.YtidchfncfcckiaaGreat
open Go.RowKit

theorem mat_cells {w : World} {A : Option Addr} {cap : Nat} {m : List (List Int)} (h : Sl (slR intR) w (.slice A m.length cap) m) (hm : WM m) {p q : Nat} (hp : p < m.length) (hq : q < m.length) :
    ∃ bm om br or cr, A = some ⟨bm, om, none⟩ ∧ ∀ W, Ext w W → W.cell? ⟨bm, om + p, none⟩ = some (.slice (some ⟨br, or, none⟩) m.length cr) ∧ W.cell? ⟨br, or + q, none⟩ = some (.int .i64 (ent m p q)) := by
  obtain ⟨bm, om, Ar, cr, eA, hrow, cm⟩ := h.sl hp
  have hrl : m[p].length = m.length := by have := hm.row p hp; rwa [row_at hp] at this
  have hqr : q < m[p].length := by omega
  obtain ⟨br, or, eAr, _, cq⟩ := hrow.int hqr
  subst eAr
  rw [hrl] at cm
  rw [← ent_at hp hqr] at cq
  exact ⟨bm, om, br, or, cr, eA, fun W y => ⟨y.cell cm, y.cell cq⟩⟩
theorem OwnSl.tab {w : World} {G0 O0 n c1 : Nat} {U : List (List Int)} {F : List Nat} (h : OwnSl (slO intO) w (.slice (some ⟨G0, O0, none⟩) n c1) U F) (hN : F.Nodup) (hs : Sq n U) {p q : Nat} (hp : p < n) (hq : q < n) :
    ∃ b1 o1 cp1, w.cell? ⟨G0, O0 + p, none⟩ = some (.slice (some ⟨b1, o1, none⟩) n cp1) ∧ w.cell? ⟨b1, o1 + q, none⟩ = some (.int .i64 (ent U p q)) ∧ w.frozen? ⟨b1, o1 + q, none⟩ = false ∧ b1 ∈ F ∧
      ∀ x, I64 x → OwnSl (slO intO) (w.setCell ⟨b1, o1 + q, none⟩ (.int .i64 x)) (.slice (some ⟨G0, O0, none⟩) n c1) (setE U p q x) F := by
  have hUl := hs.1
  have hpU : p < U.length := by omega
  have hUr := hs.2 p hp
  rw [getD_getElem hpU] at hUr
  obtain ⟨g, off2, cp, b1, o1, cp1, eV, ca, hbF, hgb, cell1, fr1, st1⟩ := h.ints_store hN (i := p) (s := q) hpU (by omega)
  rw [hUl] at eV
  injection eV with e9 q1 q2
  clear q1 q2
  injection e9 with e9
  injection e9 with e8 e7 q3
  clear q3
  subst e8; subst e7
  rw [hUr] at ca
  refine ⟨b1, o1, cp1, ca, ?_, fr1, hbF, fun x hx => ?_⟩
  · unfold ent
    rw [getD_getElem hpU, getD_getElem (by omega)]
    exact cell1
  · have hM2 : setE U p q x = U.set p (U[p].set q x) := by unfold setE; rw [getD_getElem hpU]
    rw [hM2]
    exact st1 x hx
theorem Bld.stayF {α : Type} {R : RepO α} {w w2 : World} {base : Nat} {e : TypeId} {v : Value} {xs : List α} (h : Bld R w base e v xs []) (hk : ∀ b, v.ownBlock = some b → w2.heap[b]? = w.heap[b]?) : Bld R w2 base e v xs [] := by
  obtain ⟨cs, h1, h2, h3, h4, h5⟩ := h
  refine ⟨cs, ⟨h1.1, ?_⟩, h2.keep (fun b hb => by cases hb), h3, h4, h5⟩
  rcases h1.2 with h | ⟨g', cap, cur, rfl, hb, hh, hr⟩
  · exact .inl h
  · exact .inr ⟨g', cap, cur, rfl, hb, (hk g' rfl).trans hh, hr⟩
/-- one after the other -/
theorem KeepB.via {w0 w1 w2 : World} {F G : List Nat} (h : KeepB w0 w1 F) (k : KeepB w1 w2 G) (hG : ∀ b, b < w0.heap.size → b ∈ G → b ∈ F) : KeepB w0 w2 F :=
  ⟨Nat.le_trans h.1 k.1, fun b hb hn => (k.2 b (Nat.lt_of_lt_of_le hb h.1) fun hm => hn (hG b hb hm)).trans (h.2 b hb hn)⟩

def aU (U : List (List Int)) (W : Int) (a b c : Nat) : Nat → List (List Int)
  | 0 => U
  | 1 => setE U a b (ent U a b + W)
  | 2 => setE (setE U a b (ent U a b + W)) a c (ent (setE U a b (ent U a b + W)) a c + W)
  | _ => setE (setE (setE U a b (ent U a b + W)) a c (ent (setE U a b (ent U a b + W)) a c + W)) b c (ent (setE (setE U a b (ent U a b + W)) a c (ent (setE U a b (ent U a b + W)) a c + W)) b c + W)
theorem aU_sq {n : Nat} {U : List (List Int)} (hs : Sq n U) (W : Int) {a b c : Nat} (ha : a < n) (hb : b < n) (_hc : c < n) (k : Nat) : Sq n (aU U W a b c k) := by
  unfold aU
  split
  · exact hs
  · exact hs.set ha _
  · exact (hs.set ha _).set ha _
  · exact ((hs.set ha _).set ha _).set hb _
theorem aU_at {n : Nat} {U : List (List Int)} (hs : Sq n U) (W : Int) {a b c : Nat} (hab : a < b) (hbc : b < c) (hc : c < n) :
    ent (aU U W a b c 0) a b = ent U a b ∧ ent (aU U W a b c 1) a c = ent U a c ∧ ent (aU U W a b c 2) b c = ent U b c := by
  have ha : a < n := by omega
  have hb : b < n := by omega
  refine ⟨rfl, ?_, ?_⟩
  · show ent (setE U a b _) a c = _
    rw [ent_set hs ha hb, if_neg (by omega)]
  · show ent (setE (setE U a b _) a c _) b c = _
    rw [ent_set (hs.set ha _) ha hc, if_neg (by omega), ent_set hs ha hb, if_neg (by omega)]
theorem aU_fin {n : Nat} {U : List (List Int)} (hs : Sq n U) {W : Int} {a b c : Nat} (hab : a < b) (hbc : b < c) (hc : c < n) {out : List Triangle} {t : Triangle} (ea : t.a = a) (eb : t.b = b) (ec : t.c = c) (ew : t.weight = W)
    (h : ∀ x y, x < n → y < n → ent U x y = usedT out x y) : ∀ x y, x < n → y < n → ent (aU U W a b c 3) x y = usedT (out ++ [t]) x y := fun x y hx hy => by
  have ha : a < n := by omega
  have hb : b < n := by omega
  obtain ⟨U1, hU1⟩ : ∃ V, V = setE U a b (ent U a b + W) := ⟨_, rfl⟩
  have h1 : Sq n U1 := by rw [hU1]; exact hs.set ha _
  have e1 : ∀ x y, ent U1 x y = if x = a ∧ y = b then ent U a b + W else ent U x y := fun x y => by rw [hU1, ent_set hs ha hb]
  obtain ⟨U2, hU2⟩ : ∃ V, V = setE U1 a c (ent U1 a c + W) := ⟨_, rfl⟩
  have h2 : Sq n U2 := by rw [hU2]; exact h1.set ha _
  have e2 : ∀ x y, ent U2 x y = if x = a ∧ y = c then ent U a c + W else ent U1 x y := fun x y => by
    have e9 : ent U1 a c = ent U a c := by rw [e1, if_neg (by omega)]
    rw [hU2, ent_set h1 ha hc, e9]
  have e3 : ent (aU U W a b c 3) x y = if x = b ∧ y = c then ent U b c + W else ent U2 x y := by
    show ent (setE (setE (setE U a b (ent U a b + W)) a c (ent (setE U a b (ent U a b + W)) a c + W)) b c (ent (setE (setE U a b (ent U a b + W)) a c (ent (setE U a b (ent U a b + W)) a c + W)) b c + W)) x y = _
    have e9 : ent U2 b c = ent U b c := by rw [e2, if_neg (by omega), e1, if_neg (by omega)]
    rw [← hU1, ← hU2, ent_set h2 hb hc, e9]
  rw [usedT_snoc, e3, e2, e1]
  unfold onT
  rw [ea, eb, ec, ew]
  have hd : ∀ p q : Nat, (((p : Int) == (x : Int) && (q : Int) == (y : Int)) = true) ↔ (x = p ∧ y = q) := fun p q => by
    rw [Bool.and_eq_true, beq_iff_eq, beq_iff_eq]; omega
  simp only [Bool.or_eq_true, hd]
  by_cases e1 : x = a ∧ y = b
  · obtain ⟨rfl, rfl⟩ := e1
    rw [if_neg (by omega), if_neg (by omega), if_pos ⟨rfl, rfl⟩, if_pos (.inl ⟨rfl, rfl⟩), h _ _ hx hy]
  · by_cases e2 : x = a ∧ y = c
    · obtain ⟨rfl, rfl⟩ := e2
      rw [if_neg (by omega), if_pos ⟨rfl, rfl⟩, if_pos (.inr (.inl ⟨rfl, rfl⟩)), h _ _ hx hy]
    · by_cases e3 : x = b ∧ y = c
      · obtain ⟨rfl, rfl⟩ := e3
        rw [if_pos ⟨rfl, rfl⟩, if_pos (.inr (.inr ⟨rfl, rfl⟩)), h _ _ hx hy]
      · rw [if_neg e3, if_neg e2, if_neg e1, if_neg (by omega), h _ _ hx hy, Int.add_zero]

def mn (w l : Int) : Int := if l < w then l else w
def wS (w0 l1 l2 l3 : Int) : Nat → Int
  | 0 => w0
  | 1 => mn w0 l1
  | 2 => mn (mn w0 l1) l2
  | _ => mn (mn (mn w0 l1) l2) l3
theorem wS_bd (w0 l1 l2 l3 : Int) (h : (0 ≤ w0 ∧ w0 ≤ 1000) ∧ (0 ≤ l1 ∧ l1 ≤ 1000) ∧ (0 ≤ l2 ∧ l2 ≤ 1000) ∧ (0 ≤ l3 ∧ l3 ≤ 1000)) (k : Nat) : 0 ≤ wS w0 l1 l2 l3 k ∧ wS w0 l1 l2 l3 k ≤ 1000 := by
  have key : ∀ w l : Int, (0 ≤ w ∧ w ≤ 1000) → (0 ≤ l ∧ l ≤ 1000) → 0 ≤ mn w l ∧ mn w l ≤ 1000 := fun w l hw hl => by unfold mn; split <;> omega
  have h1 := key w0 l1 h.1 h.2.1
  have h2 := key _ l2 h1 h.2.2.1
  have h3 := key _ l3 h2 h.2.2.2
  unfold wS
  split
  · exact h.1
  · exact h1
  · exact h2
  · exact h3
theorem wS_fin {x y z u1 u2 u3 : Int} (h1 : 0 ≤ u1) (h2 : 0 ≤ u2) (h3 : 0 ≤ u3) : wS (min3 x y z) (x - u1) (y - u2) (z - u3) 3 = min3 (x - u1) (y - u2) (z - u3) := by
  have m1 := min3_le x y z
  have m2 := min3_le (x - u1) (y - u2) (z - u3)
  show mn (mn (mn (min3 x y z) (x - u1)) (y - u2)) (z - u3) = _
  unfold mn
  split <;> split at * <;> split at * <;> omega
theorem grSt_take {m : List (List Int)} {l : List Triangle} {k : Nat} (hk : k < l.length) : (l.take (k + 1)).foldl (grSt m) [] = grSt m ((l.take k).foldl (grSt m) []) l[k] := by
  rw [List.take_succ_eq_append_getElem hk, List.foldl_append]; rfl
theorem greedy_to {m : List (List Int)} (hm : WM m) (k : Nat) : PackB m (((badL m).take k).foldl (grSt m) []) ∧ (((badL m).take k).foldl (grSt m) []).length ≤ k := by
  obtain ⟨h1, h2⟩ := gr_pack hm ((badL m).take k) [] (fun t ht => badL_isT (List.mem_of_mem_take ht)) (PackB.nil hm)
  refine ⟨h1, Nat.le_trans h2 ?_⟩
  rw [List.length_nil, List.length_take]; omega
end Go.Proofs.YtidchfncfcckiaaGreat

namespace Go.Proofs.YtidchfncfcckiaaGreat
open Go.RowKit

set_option maxHeartbeats 400000 in
theorem impl_absolute (x : Int) (w : World) (hx : -1000000 ≤ x ∧ x ≤ 1000000) :
    Calls Tryz.prog 91 #[.int .i64 x] w fun e w2 => e = .returned (.int .i64 (ab x)) ∧ w = w2 := by
  have HV := hid (show ab x = max x (-x) from rfl)
  go_enter Tryz.func91, Tryz.ntmps91
  go_wp2
  all_goals
    go_ret
    exact ⟨ret_int (by rw [HV.out]; omega), rfl⟩

set_option maxHeartbeats 400000 in
set_option maxRecDepth 20000 in
theorem impl_pairs (t : Triangle) (w : World) :
    Calls Tryz.prog 90 #[.agg #[.int .i64 t.a, .int .i64 t.b, .int .i64 t.c, .int .i64 t.weight]] w fun e w2 =>
      e = .returned (.agg #[.int .i64 t.a, .int .i64 t.b, .int .i64 t.a, .int .i64 t.c, .int .i64 t.b, .int .i64 t.c]) ∧ Ext w w2 := by
  obtain ⟨a, b, c, wt⟩ := t
  dsimp only
  go_enter Tryz.func90, Tryz.ntmps90
  go_wp2_with fail
  have hb := (Ext.refl ((w.alloc (.cells #[.int .i64 a, .int .i64 b, .int .i64 c, .int .i64 wt] 91)).alloc (.cells #[.int .i64 a, .int .i64 b, .int .i64 a, .int .i64 c, .int .i64 b, .int .i64 c] 93))).box1.1
  have r0 := hb 0
  have r1 := hb 1
  have r2 := hb 2
  have r3 := hb 3
  have r4 := hb 4
  have r5 := hb 5
  clear hb
  refine bodyPost_ret (v := .agg #[.int .i64 a, .int .i64 b, .int .i64 a, .int .i64 c, .int .i64 b, .int .i64 c]) (by simp [results, Tryz.results90, go_sem, r0, r1, r2, r3, r4, r5]) rfl ?_
  exact ⟨rfl, ((Ext.refl _).alloc _).alloc _⟩

theorem ix3_0 (a b c d e f : Int) (W : World) : (Instr.index 93 (.agg #[.int .i64 a, .int .i64 b, .int .i64 c, .int .i64 d, .int .i64 e, .int .i64 f]) (.int .i64 0)).run Tryz.prog W = .ok (.agg #[.int .i64 a, .int .i64 b]) W := by kernel_rfl
theorem ix3_1 (a b c d e f : Int) (W : World) : (Instr.index 93 (.agg #[.int .i64 a, .int .i64 b, .int .i64 c, .int .i64 d, .int .i64 e, .int .i64 f]) (.int .i64 1)).run Tryz.prog W = .ok (.agg #[.int .i64 c, .int .i64 d]) W := by kernel_rfl
theorem ix3_2 (a b c d e f : Int) (W : World) : (Instr.index 93 (.agg #[.int .i64 a, .int .i64 b, .int .i64 c, .int .i64 d, .int .i64 e, .int .i64 f]) (.int .i64 2)).run Tryz.prog W = .ok (.agg #[.int .i64 e, .int .i64 f]) W := by kernel_rfl

def S3 (f : Int → Int) (x y z : Int) : Nat → Int
  | 0 => 0
  | 1 => 0 + f x
  | 2 => 0 + f x + f y
  | _ => 0 + f x + f y + f z
theorem S3_bd {f : Int → Int} (hf : ∀ x, 0 ≤ f x ∧ f x ≤ 1) (x y z : Int) (k : Nat) : 0 ≤ S3 f x y z k ∧ S3 f x y z k ≤ 3 := by
  have := hf x
  have := hf y
  have := hf z
  unfold S3
  split <;> omega
theorem pl_bd (x : Int) : 0 ≤ pl x ∧ pl x ≤ 1 := by unfold pl; split <;> omega
theorem ng_bd (x : Int) : 0 ≤ ng x ∧ ng x ≤ 1 := by unfold ng; split <;> omega

set_option maxHeartbeats 2000000 in
set_option maxRecDepth 20000 in
theorem impl_isBad (wt : Int) (a b c : Nat) (v : Value) (m : List (List Int)) (w : World) (h : Sl (slR intR) w v m) (hm : WM m) (ha : a < m.length) (hb : b < m.length) (hc : c < m.length) :
    Calls Tryz.prog 128 #[.agg #[.int .i64 (a : Int), .int .i64 (b : Int), .int .i64 (c : Int), .int .i64 wt], v] w fun e w2 => e = .returned (.bool (badB m a b c)) ∧ Ext w w2 := by
  have x0 : Ext w (w.alloc (.cells #[.int .i64 (a : Int), .int .i64 (b : Int), .int .i64 (c : Int), .int .i64 wt] 91)) := (Ext.refl _).alloc _
  have HPR := hid (impl_pairs ⟨a, b, c, wt⟩ (w.alloc (.cells #[.int .i64 (a : Int), .int .i64 (b : Int), .int .i64 (c : Int), .int .i64 wt] 91)))
  obtain ⟨A, cap, rfl, hm1⟩ := h.form
  have HM := hid hm
  have HH := hid h
  have HX0 := hid x0
  have hnab : (a : Int) < (m.length : Int) := by omega
  have hnbb : (b : Int) < (m.length : Int) := by omega
  have hncb : (c : Int) < (m.length : Int) := by omega
  clear h hm x0
  go_enter Tryz.func128, Tryz.ntmps128
  go_wp2_with fail
  refine (HPR.out).mono ?_
  rintro e w2 ⟨rfl, x2⟩
  have HX2 := hid (HX0.out.trans x2)
  clear x2
  go_wp2_with fail
  go_loopw [5, 6, 12] (fun p q i wr => ∃ k : Nat, k ≤ 3 ∧ i = .int .i64 k ∧ p = .int .i64 (S3 pl (ent m a b) (ent m a c) (ent m b c) k) ∧ q = .int .i64 (S3 ng (ent m a b) (ent m a c) (ent m b c) k) ∧ Ext w wr) (fun _ _ i _ => 3 - (intOf i).toNat)
  case atStart => exact ⟨0, Nat.zero_le _, rfl, rfl, rfl, HX2.out⟩
  case round =>
    obtain ⟨k, hk, rfl, rfl, rfl, hx⟩ := hrel
    have b1 := S3_bd pl_bd (ent m a b) (ent m a c) (ent m b c) k
    have b2 := S3_bd ng_bd (ent m a b) (ent m a c) (ent m b c) k
    have hkk : k = 0 ∨ k = 1 ∨ k = 2 ∨ k = 3 := by omega
    rcases hkk with rfl | rfl | rfl | rfl
    · obtain ⟨bm, om, Ar, cr, eA, hrow, cm⟩ := HH.out.sl ha
      have hrl : m[a].length = m.length := by have := HM.out.row a ha; rwa [row_at ha] at this
      have hbr : b < m[a].length := by omega
      obtain ⟨br, or, eAr, _, cq⟩ := hrow.int hbr
      subst eAr
      subst eA
      rw [hrl] at cm
      have HE := hid (ent_at ha hbr)
      obtain ⟨x, hxe⟩ : ∃ x, x = m[a][b] := ⟨_, rfl⟩
      rw [← hxe] at cq HE
      have HX := hid hx
      have xa : Ext wr (wr.alloc (.cells #[.int .i64 (a : Int), .int .i64 (b : Int)] 92)) := (Ext.refl _).alloc _
      have xz := hx.trans xa
      obtain ⟨wb, hwb⟩ : ∃ wb, wb = wr.alloc (.cells #[.int .i64 (a : Int), .int .i64 (b : Int)] 92) := ⟨_, rfl⟩
      have bb : Blk wb wr.heap.size 92 [.int .i64 (a : Int), .int .i64 (b : Int)] := by rw [hwb]; exact Blk.new wr 92 #[.int .i64 (a : Int), .int .i64 (b : Int)]
      rw [← hwb] at xz
      have z0 : ∀ z : ExtOf wb, z.1.cell? ⟨wr.heap.size, 0, none⟩ = some (.int .i64 (a : Int)) := fun z => (bb.ext z.2).cells.1 0
      have z1 : ∀ z : ExtOf wb, z.1.cell? ⟨wr.heap.size, 1, none⟩ = some (.int .i64 (b : Int)) := fun z => (bb.ext z.2).cells.1 1
      have y0 : ∀ z : ExtOf wb, z.1.cell? ⟨bm, om + a, none⟩ = some (.slice (some ⟨br, or, none⟩) m.length cr) := fun z => (xz.trans z.2).cell cm
      have y1 : ∀ z : ExtOf wb, z.1.cell? ⟨br, or + b, none⟩ = some (.int .i64 x) := fun z => (xz.trans z.2).cell cq
      have HXZ := hid xz
      have hix := fun (W : World) => ix3_0 (a : Int) b a c b c W
      clear hrow hrl cm cq hxe bb xa xz hx
      rcases (show x < 0 ∨ x = 0 ∨ 0 < x by omega) with hs | hs | hs
      · have d1 : decide (0 < x) = false := by simp; omega
        have d2 : decide (x < 0) = true := by simp [hs]
        have HP := hid (show pl (ent m a b) = 0 ∧ ng (ent m a b) = 1 from by rw [HE.out]; unfold pl ng; constructor <;> split <;> omega)
        clear hs
        go_wp2_with fail
        rw [← hwb]
        refine wp_region_ext (by kernel_rfl) (by kernel_rfl) ?_
        repeat (go_big_quiet_step ((fail)))
        refine wpQuiet_nil ?_
        rintro w5 ⟨⟨_, x5⟩, rfl⟩
        go_wp2
        go_roundw
        case rel => exact ⟨1, by omega, rfl, by rw [show S3 pl (ent m a b) (ent m a c) (ent m b c) 1 = S3 pl (ent m a b) (ent m a c) (ent m b c) 0 + pl (ent m a b) from by simp [S3], HP.out.1]; simp, by rw [show S3 ng (ent m a b) (ent m a c) (ent m b c) 1 = S3 ng (ent m a b) (ent m a c) (ent m b c) 0 + ng (ent m a b) from by simp [S3], HP.out.2], HXZ.out.trans x5⟩
        case measure => simp [intOf]
      · have d1 : decide (0 < x) = false := by simp [hs]
        have d2 : decide (x < 0) = false := by simp [hs]
        have HP := hid (show pl (ent m a b) = 0 ∧ ng (ent m a b) = 0 from by rw [HE.out]; unfold pl ng; constructor <;> split <;> omega)
        clear hs
        go_wp2_with fail
        rw [← hwb]
        refine wp_region_ext (by kernel_rfl) (by kernel_rfl) ?_
        repeat (go_big_quiet_step ((fail)))
        refine wpQuiet_nil ?_
        rintro w5 ⟨⟨_, x5⟩, rfl⟩
        go_wp2
        go_roundw
        case rel => exact ⟨1, by omega, rfl, by rw [show S3 pl (ent m a b) (ent m a c) (ent m b c) 1 = S3 pl (ent m a b) (ent m a c) (ent m b c) 0 + pl (ent m a b) from by simp [S3], HP.out.1]; simp, by rw [show S3 ng (ent m a b) (ent m a c) (ent m b c) 1 = S3 ng (ent m a b) (ent m a c) (ent m b c) 0 + ng (ent m a b) from by simp [S3], HP.out.2]; simp, HXZ.out.trans x5⟩
        case measure => simp [intOf]
      · have d1 : decide (0 < x) = true := by simp [hs]
        have d2 : decide (x < 0) = false := by simp; omega
        have HP := hid (show pl (ent m a b) = 1 ∧ ng (ent m a b) = 0 from by rw [HE.out]; unfold pl ng; constructor <;> split <;> omega)
        clear hs
        go_wp2_with fail
        rw [← hwb]
        refine wp_region_ext (by kernel_rfl) (by kernel_rfl) ?_
        repeat (go_big_quiet_step ((fail)))
        refine wpQuiet_nil ?_
        rintro w5 ⟨⟨_, x5⟩, rfl⟩
        go_wp2
        go_roundw
        case rel => exact ⟨1, by omega, rfl, by rw [show S3 pl (ent m a b) (ent m a c) (ent m b c) 1 = S3 pl (ent m a b) (ent m a c) (ent m b c) 0 + pl (ent m a b) from by simp [S3], HP.out.1], by rw [show S3 ng (ent m a b) (ent m a c) (ent m b c) 1 = S3 ng (ent m a b) (ent m a c) (ent m b c) 0 + ng (ent m a b) from by simp [S3], HP.out.2]; simp, HXZ.out.trans x5⟩
        case measure => simp [intOf]
    · obtain ⟨bm, om, Ar, cr, eA, hrow, cm⟩ := HH.out.sl ha
      have hrl : m[a].length = m.length := by have := HM.out.row a ha; rwa [row_at ha] at this
      have hcr : c < m[a].length := by omega
      obtain ⟨br, or, eAr, _, cq⟩ := hrow.int hcr
      subst eAr
      subst eA
      rw [hrl] at cm
      have HE := hid (ent_at ha hcr)
      obtain ⟨x, hxe⟩ : ∃ x, x = m[a][c] := ⟨_, rfl⟩
      rw [← hxe] at cq HE
      have HX := hid hx
      have xa : Ext wr (wr.alloc (.cells #[.int .i64 (a : Int), .int .i64 (c : Int)] 92)) := (Ext.refl _).alloc _
      have xz := hx.trans xa
      obtain ⟨wb, hwb⟩ : ∃ wb, wb = wr.alloc (.cells #[.int .i64 (a : Int), .int .i64 (c : Int)] 92) := ⟨_, rfl⟩
      have bb : Blk wb wr.heap.size 92 [.int .i64 (a : Int), .int .i64 (c : Int)] := by rw [hwb]; exact Blk.new wr 92 #[.int .i64 (a : Int), .int .i64 (c : Int)]
      rw [← hwb] at xz
      have z0 : ∀ z : ExtOf wb, z.1.cell? ⟨wr.heap.size, 0, none⟩ = some (.int .i64 (a : Int)) := fun z => (bb.ext z.2).cells.1 0
      have z1 : ∀ z : ExtOf wb, z.1.cell? ⟨wr.heap.size, 1, none⟩ = some (.int .i64 (c : Int)) := fun z => (bb.ext z.2).cells.1 1
      have y0 : ∀ z : ExtOf wb, z.1.cell? ⟨bm, om + a, none⟩ = some (.slice (some ⟨br, or, none⟩) m.length cr) := fun z => (xz.trans z.2).cell cm
      have y1 : ∀ z : ExtOf wb, z.1.cell? ⟨br, or + c, none⟩ = some (.int .i64 x) := fun z => (xz.trans z.2).cell cq
      have HXZ := hid xz
      have hix := fun (W : World) => ix3_1 (a : Int) b a c b c W
      clear hrow hrl cm cq hxe bb xa xz hx
      rcases (show x < 0 ∨ x = 0 ∨ 0 < x by omega) with hs | hs | hs
      · have d1 : decide (0 < x) = false := by simp; omega
        have d2 : decide (x < 0) = true := by simp [hs]
        have HP := hid (show pl (ent m a c) = 0 ∧ ng (ent m a c) = 1 from by rw [HE.out]; unfold pl ng; constructor <;> split <;> omega)
        clear hs
        go_wp2_with fail
        rw [← hwb]
        refine wp_region_ext (by kernel_rfl) (by kernel_rfl) ?_
        repeat (go_big_quiet_step ((fail)))
        refine wpQuiet_nil ?_
        rintro w5 ⟨⟨_, x5⟩, rfl⟩
        go_wp2
        go_roundw
        case rel => exact ⟨2, by omega, rfl, by rw [show S3 pl (ent m a b) (ent m a c) (ent m b c) 2 = S3 pl (ent m a b) (ent m a c) (ent m b c) 1 + pl (ent m a c) from by simp [S3], HP.out.1]; simp, by rw [show S3 ng (ent m a b) (ent m a c) (ent m b c) 2 = S3 ng (ent m a b) (ent m a c) (ent m b c) 1 + ng (ent m a c) from by simp [S3], HP.out.2], HXZ.out.trans x5⟩
        case measure => simp [intOf]
      · have d1 : decide (0 < x) = false := by simp [hs]
        have d2 : decide (x < 0) = false := by simp [hs]
        have HP := hid (show pl (ent m a c) = 0 ∧ ng (ent m a c) = 0 from by rw [HE.out]; unfold pl ng; constructor <;> split <;> omega)
        clear hs
        go_wp2_with fail
        rw [← hwb]
        refine wp_region_ext (by kernel_rfl) (by kernel_rfl) ?_
        repeat (go_big_quiet_step ((fail)))
        refine wpQuiet_nil ?_
        rintro w5 ⟨⟨_, x5⟩, rfl⟩
        go_wp2
        go_roundw
        case rel => exact ⟨2, by omega, rfl, by rw [show S3 pl (ent m a b) (ent m a c) (ent m b c) 2 = S3 pl (ent m a b) (ent m a c) (ent m b c) 1 + pl (ent m a c) from by simp [S3], HP.out.1]; simp, by rw [show S3 ng (ent m a b) (ent m a c) (ent m b c) 2 = S3 ng (ent m a b) (ent m a c) (ent m b c) 1 + ng (ent m a c) from by simp [S3], HP.out.2]; simp, HXZ.out.trans x5⟩
        case measure => simp [intOf]
      · have d1 : decide (0 < x) = true := by simp [hs]
        have d2 : decide (x < 0) = false := by simp; omega
        have HP := hid (show pl (ent m a c) = 1 ∧ ng (ent m a c) = 0 from by rw [HE.out]; unfold pl ng; constructor <;> split <;> omega)
        clear hs
        go_wp2_with fail
        rw [← hwb]
        refine wp_region_ext (by kernel_rfl) (by kernel_rfl) ?_
        repeat (go_big_quiet_step ((fail)))
        refine wpQuiet_nil ?_
        rintro w5 ⟨⟨_, x5⟩, rfl⟩
        go_wp2
        go_roundw
        case rel => exact ⟨2, by omega, rfl, by rw [show S3 pl (ent m a b) (ent m a c) (ent m b c) 2 = S3 pl (ent m a b) (ent m a c) (ent m b c) 1 + pl (ent m a c) from by simp [S3], HP.out.1], by rw [show S3 ng (ent m a b) (ent m a c) (ent m b c) 2 = S3 ng (ent m a b) (ent m a c) (ent m b c) 1 + ng (ent m a c) from by simp [S3], HP.out.2]; simp, HXZ.out.trans x5⟩
        case measure => simp [intOf]
    · obtain ⟨bm, om, Ar, cr, eA, hrow, cm⟩ := HH.out.sl hb
      have hrl : m[b].length = m.length := by have := HM.out.row b hb; rwa [row_at hb] at this
      have hcr : c < m[b].length := by omega
      obtain ⟨br, or, eAr, _, cq⟩ := hrow.int hcr
      subst eAr
      subst eA
      rw [hrl] at cm
      have HE := hid (ent_at hb hcr)
      obtain ⟨x, hxe⟩ : ∃ x, x = m[b][c] := ⟨_, rfl⟩
      rw [← hxe] at cq HE
      have HX := hid hx
      have xa : Ext wr (wr.alloc (.cells #[.int .i64 (b : Int), .int .i64 (c : Int)] 92)) := (Ext.refl _).alloc _
      have xz := hx.trans xa
      obtain ⟨wb, hwb⟩ : ∃ wb, wb = wr.alloc (.cells #[.int .i64 (b : Int), .int .i64 (c : Int)] 92) := ⟨_, rfl⟩
      have bb : Blk wb wr.heap.size 92 [.int .i64 (b : Int), .int .i64 (c : Int)] := by rw [hwb]; exact Blk.new wr 92 #[.int .i64 (b : Int), .int .i64 (c : Int)]
      rw [← hwb] at xz
      have z0 : ∀ z : ExtOf wb, z.1.cell? ⟨wr.heap.size, 0, none⟩ = some (.int .i64 (b : Int)) := fun z => (bb.ext z.2).cells.1 0
      have z1 : ∀ z : ExtOf wb, z.1.cell? ⟨wr.heap.size, 1, none⟩ = some (.int .i64 (c : Int)) := fun z => (bb.ext z.2).cells.1 1
      have y0 : ∀ z : ExtOf wb, z.1.cell? ⟨bm, om + b, none⟩ = some (.slice (some ⟨br, or, none⟩) m.length cr) := fun z => (xz.trans z.2).cell cm
      have y1 : ∀ z : ExtOf wb, z.1.cell? ⟨br, or + c, none⟩ = some (.int .i64 x) := fun z => (xz.trans z.2).cell cq
      have HXZ := hid xz
      have hix := fun (W : World) => ix3_2 (a : Int) b a c b c W
      clear hrow hrl cm cq hxe bb xa xz hx
      rcases (show x < 0 ∨ x = 0 ∨ 0 < x by omega) with hs | hs | hs
      · have d1 : decide (0 < x) = false := by simp; omega
        have d2 : decide (x < 0) = true := by simp [hs]
        have HP := hid (show pl (ent m b c) = 0 ∧ ng (ent m b c) = 1 from by rw [HE.out]; unfold pl ng; constructor <;> split <;> omega)
        clear hs
        go_wp2_with fail
        rw [← hwb]
        refine wp_region_ext (by kernel_rfl) (by kernel_rfl) ?_
        repeat (go_big_quiet_step ((fail)))
        refine wpQuiet_nil ?_
        rintro w5 ⟨⟨_, x5⟩, rfl⟩
        go_wp2
        go_roundw
        case rel => exact ⟨3, by omega, rfl, by rw [show S3 pl (ent m a b) (ent m a c) (ent m b c) 3 = S3 pl (ent m a b) (ent m a c) (ent m b c) 2 + pl (ent m b c) from by simp [S3], HP.out.1]; simp, by rw [show S3 ng (ent m a b) (ent m a c) (ent m b c) 3 = S3 ng (ent m a b) (ent m a c) (ent m b c) 2 + ng (ent m b c) from by simp [S3], HP.out.2], HXZ.out.trans x5⟩
        case measure => simp [intOf]
      · have d1 : decide (0 < x) = false := by simp [hs]
        have d2 : decide (x < 0) = false := by simp [hs]
        have HP := hid (show pl (ent m b c) = 0 ∧ ng (ent m b c) = 0 from by rw [HE.out]; unfold pl ng; constructor <;> split <;> omega)
        clear hs
        go_wp2_with fail
        rw [← hwb]
        refine wp_region_ext (by kernel_rfl) (by kernel_rfl) ?_
        repeat (go_big_quiet_step ((fail)))
        refine wpQuiet_nil ?_
        rintro w5 ⟨⟨_, x5⟩, rfl⟩
        go_wp2
        go_roundw
        case rel => exact ⟨3, by omega, rfl, by rw [show S3 pl (ent m a b) (ent m a c) (ent m b c) 3 = S3 pl (ent m a b) (ent m a c) (ent m b c) 2 + pl (ent m b c) from by simp [S3], HP.out.1]; simp, by rw [show S3 ng (ent m a b) (ent m a c) (ent m b c) 3 = S3 ng (ent m a b) (ent m a c) (ent m b c) 2 + ng (ent m b c) from by simp [S3], HP.out.2]; simp, HXZ.out.trans x5⟩
        case measure => simp [intOf]
      · have d1 : decide (0 < x) = true := by simp [hs]
        have d2 : decide (x < 0) = false := by simp; omega
        have HP := hid (show pl (ent m b c) = 1 ∧ ng (ent m b c) = 0 from by rw [HE.out]; unfold pl ng; constructor <;> split <;> omega)
        clear hs
        go_wp2_with fail
        rw [← hwb]
        refine wp_region_ext (by kernel_rfl) (by kernel_rfl) ?_
        repeat (go_big_quiet_step ((fail)))
        refine wpQuiet_nil ?_
        rintro w5 ⟨⟨_, x5⟩, rfl⟩
        go_wp2
        go_roundw
        case rel => exact ⟨3, by omega, rfl, by rw [show S3 pl (ent m a b) (ent m a c) (ent m b c) 3 = S3 pl (ent m a b) (ent m a c) (ent m b c) 2 + pl (ent m b c) from by simp [S3], HP.out.1], by rw [show S3 ng (ent m a b) (ent m a c) (ent m b c) 3 = S3 ng (ent m a b) (ent m a c) (ent m b c) 2 + ng (ent m b c) from by simp [S3], HP.out.2]; simp, HXZ.out.trans x5⟩
        case measure => simp [intOf]
    · have HV := hid (show badB m a b c = (decide (S3 pl (ent m a b) (ent m a c) (ent m b c) 3 = 2) && decide (S3 ng (ent m a b) (ent m a c) (ent m b c) 3 = 1)) from by unfold badB badW S3; simp only [Int.zero_add])
      obtain ⟨s1, hs1⟩ : ∃ s, s = S3 pl (ent m a b) (ent m a c) (ent m b c) 3 := ⟨_, rfl⟩
      obtain ⟨s2, hs2⟩ : ∃ s, s = S3 ng (ent m a b) (ent m a c) (ent m b c) 3 := ⟨_, rfl⟩
      rw [← hs1, ← hs2] at HV
      rw [← hs1] at b1 ⊢
      rw [← hs2] at b2 ⊢
      clear hs1 hs2
      by_cases h1 : s1 = 2
      · have q1 : (s1 == 2) = true := by simp [h1]
        have HD := hid (decide_eq_true h1)
        clear h1
        go_wp2
        go_ret
        exact ⟨ret_bool (by rw [HV.out, HD.out, Bool.true_and]; by_cases h : s2 = 1 <;> simp [h]), hx⟩
      · have q1 : (s1 == 2) = false := by simp [h1]
        have HD := hid (decide_eq_false h1)
        clear h1
        go_wp2
        go_ret
        exact ⟨ret_bool (by rw [HV.out, HD.out]; rfl), hx⟩

end Go.Proofs.YtidchfncfcckiaaGreat

namespace Go.Proofs.YtidchfncfcckiaaGreat
open Go.RowKit

/-- a clustering by value -/
theorem eqClustering_c (v u : Value) (x : Clust) (w : World) (h : Sl intR w v x.labels) (k : Sl intR w u x.labels) :
    Calls Tryz.prog 22 #[.agg #[v, .int .i64 x.cost, .bool x.exact, .int .i64 x.gap], .agg #[u, .int .i64 x.cost, .bool x.exact, .int .i64 x.gap]] w fun e w2 => e = .returned (.bool true) ∧ Ext w w2 := by
  have b0 : (x.cost != x.cost) = false := by simp
  have b1 : (x.exact == x.exact) = true := by simp
  have b2 : (x.gap != x.gap) = false := by simp
  obtain ⟨A, cap, rfl, hm⟩ := h.form
  obtain ⟨B, cap2, rfl, hm2⟩ := k.form
  have HE := hid (fun (W : World) (y : Ext w W) => eqIntS_c _ _ x.labels x.labels W (h.mono y) (k.mono y))
  clear h k
  obtain ⟨wb, hwb⟩ : ∃ W, W = (w.alloc (.cells #[.slice A x.labels.length cap, .int .i64 x.cost, .bool x.exact, .int .i64 x.gap] 30)).alloc (.cells #[.slice B x.labels.length cap2, .int .i64 x.cost, .bool x.exact, .int .i64 x.gap] 30) := ⟨_, rfl⟩
  have xb : Ext w wb := by rw [hwb]; exact ((Ext.refl _).alloc _).alloc _
  have h1 := (Blk.new w 30 #[.slice A x.labels.length cap, .int .i64 x.cost, .bool x.exact, .int .i64 x.gap]).ext ((Ext.refl _).alloc (.cells #[.slice B x.labels.length cap2, .int .i64 x.cost, .bool x.exact, .int .i64 x.gap] 30))
  have h2 := Blk.new (w.alloc (.cells #[.slice A x.labels.length cap, .int .i64 x.cost, .bool x.exact, .int .i64 x.gap] 30)) 30 #[.slice B x.labels.length cap2, .int .i64 x.cost, .bool x.exact, .int .i64 x.gap]
  rw [World.size_alloc] at h2
  rw [← hwb] at h1 h2
  have HB1 := hid h1
  have HB2 := hid h2
  have HX := hid xb
  have HW := hid hwb
  clear hwb xb h1 h2
  go_enter Tryz.func22, Tryz.ntmps22
  go_wp2_with fail
  rw [← HW.out]
  refine (HE.out _ HX.out).mono ?_
  rintro e w2 ⟨rfl, x2⟩
  rw [eqB_self]
  obtain ⟨p0, p1, p2, p3⟩ := (HB1.out.ext x2).c4.1
  obtain ⟨q0, q1, q2, q3⟩ := (HB2.out.ext x2).c4.1
  go_wp2
  go_ret
  exact ⟨rfl, HX.out.trans x2⟩
theorem markClustering_c (v : Value) (x : Clust) (F : List Nat) (k : Int) (w : World) (h : OwnSl intO w v x.labels F) (hN : F.Nodup) (h0 : 0 ≤ k) (hb : k + (lstMk intMk).cnt x.labels ≤ 1152921504606846976) :
    Calls Tryz.prog 27 #[.agg #[v, .int .i64 x.cost, .bool x.exact, .int .i64 x.gap], .int .i64 k] w fun e w2 => ∃ ys, e = .returned (.int .i64 (k + ((lstMk intMk).cnt x.labels : Nat))) ∧ OwnSl intO w2 v ys F ∧ (lstMk intMk).is k x.labels ys ∧ Chg F w w2 := by
  obtain ⟨A, cap, rfl, hm⟩ := h.form
  have HE := hid (fun (W : World) (y : Ext w W) => markIntS_c _ x.labels F k W (h.ext y) hN h0 hb)
  clear h
  go_enter Tryz.func27, Tryz.ntmps27
  go_wp2_with fail
  refine (HE.out _ ((Ext.refl w).alloc _)).mono ?_
  rintro e w2 ⟨ys, rfl, o2, i2, c2⟩
  go_wp2
  go_ret
  exact ⟨ys, rfl, o2, i2, (Chg.of_ext ((Ext.refl w).alloc _)).trans c2⟩
theorem heldClustering_c (v : Value) (x : Clust) (ys : List Int) (k : Int) (w : World) (h : Sl intR w v ys) (hi : (lstMk intMk).is k x.labels ys) (h0 : 0 ≤ k) (hb : k + (lstMk intMk).cnt x.labels ≤ 1152921504606846976) :
    Calls Tryz.prog 28 #[.agg #[v, .int .i64 x.cost, .bool x.exact, .int .i64 x.gap], .int .i64 k] w fun e w2 => e = .returned (.int .i64 (k + ((lstMk intMk).cnt x.labels : Nat))) ∧ Ext w w2 := by
  obtain ⟨A, cap, rfl, hm⟩ := h.form
  have HE := hid (fun (W : World) (y : Ext w W) => heldIntS_c _ x.labels ys k W (h.mono y) hi h0 hb)
  clear h
  go_enter Tryz.func28, Tryz.ntmps28
  go_wp2_with fail
  refine (HE.out _ ((Ext.refl w).alloc _)).mono ?_
  rintro e w2 ⟨rfl, rfl⟩
  go_wp2
  go_ret
  exact ⟨rfl, (Ext.refl w).alloc _⟩
end Go.Proofs.YtidchfncfcckiaaGreat
