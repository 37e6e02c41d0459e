/-
  SEVERAL SMALL TEXTS LAID TOGETHER: V2, Can, ConP.
-/
import Derived.Test.YtmembjjgkideeaaMgEndSpl2
import Derived.Test.YtmembjjgkideeaaMgEndSpl0
import Derived.StillTailTactics
import Derived.Deep.QuietTactic
import Derived.BigQuiet

namespace Go.Proofs.Ytmembjjgkideeaa
open Go.RowKit

def cmpB (a b : Bool) : Int := if a == b then 0 else if b then -1 else 1
/-- the first that is not 0 -/
def firstNZ : List Int → Int
  | [] => 0
  | x :: xs => if x ≠ 0 then x else firstNZ xs
def cmpV (x y : Verdict) : Int := firstNZ [cmpI x.a y.a, cmpI x.b y.b, cmpI x.time y.time, cmpB x.same y.same]

theorem cmpB_64 (a b : Bool) : I64 (cmpB a b) := by unfold I64 cmpB; split <;> (try split) <;> omega

set_option maxHeartbeats 400000 in
theorem cmp_isNaN (a : Int) (w : World) :
    Calls Try.prog 44 #[.int .i64 a] w fun e w2 => e = .returned (.bool false) ∧ w = w2 := by
  go_enter Try.func44, Try.ntmps44
  go_wp2
  all_goals go_ret
  all_goals (refine ⟨?_, rfl⟩; simp)

set_option maxHeartbeats 400000 in
theorem cmp_Compare (a b : Int) (w : World) :
    Calls Try.prog 23 #[.int .i64 a, .int .i64 b] w fun e w2 => e = .returned (.int .i64 (cmpI a b)) ∧ w2 = w := by
  go_enter Try.func23, Try.ntmps23
  go_wp2_with (go_at_call 44; refine (cmp_isNaN _ _).mono ?_; rintro e w2 ⟨rfl, rfl⟩)
  all_goals go_ret
  all_goals refine ⟨?_, rfl⟩
  all_goals (simp_all [cmpI]; try omega)

set_option maxHeartbeats 400000 in
theorem impl_compareSame (a b : Bool) (w : World) :
    Calls Try.prog 51 #[.bool a, .bool b] w fun e w2 => e = .returned (.int .i64 (cmpB a b)) ∧ w2 = w := by
  go_enter Try.func51, Try.ntmps51
  cases a <;> cases b <;> go_wp2
  all_goals go_ret
  all_goals refine ⟨?_, rfl⟩
  all_goals simp [cmpB]

theorem firstNZ_append (l r : List Int) (h : ∀ x ∈ l, x = 0) : firstNZ (l ++ r) = firstNZ r := by
  induction l with
  | nil => rfl
  | cons x l ih => simp [firstNZ, h x (List.mem_cons_self ..), ih (fun y hy => h y (List.mem_cons_of_mem _ hy))]

theorem firstNZ_at (xs : List Int) (k : Nat) (hlt : k < xs.length) (hz : ∀ x ∈ xs.take k, x = 0) (h0 : ¬ xs[k] = 0) : firstNZ xs = xs[k] := by
  have e : xs = xs.take k ++ (xs[k] :: xs.drop (k + 1)) := by simp
  have e2 : firstNZ (xs.take k ++ (xs[k] :: xs.drop (k + 1))) = xs[k] := by
    rw [firstNZ_append _ _ hz]; simp [firstNZ, h0]
  rw [← e] at e2; exact e2
theorem firstNZ_all (xs : List Int) (k : Nat) (hk : ¬ k < xs.length) (hz : ∀ x ∈ xs.take k, x = 0) : firstNZ xs = 0 := by
  rw [List.take_of_length_le (by omega)] at hz
  have := firstNZ_append xs [] hz
  rw [List.append_nil] at this
  exact this

set_option maxHeartbeats 400000 in
theorem cmp_Or (v : Value) (xs : List Int) (w : World) (h : Sl intR w v xs) :
    Calls Try.prog 50 #[v] w fun e w2 => e = .returned (.int .i64 (firstNZ xs)) ∧ w = w2 := by
  obtain ⟨A, cap, rfl, hm⟩ := h.form
  go_enter Try.func50, Try.ntmps50
  go_wp2
  go_loop [5, 8] (fun t i => ∃ k : Nat, k ≤ xs.length ∧ i = .int .i64 k ∧ ∀ x ∈ xs.take k, x = 0) (fun _ i => xs.length - (intOf i).toNat)
  case atStart => exact ⟨0, Nat.zero_le _, rfl, by simp⟩
  case round =>
    obtain ⟨k, hk, rfl, hz⟩ := hrel
    have HZ := hid hz
    clear hz
    by_cases hlt : k < xs.length
    · obtain ⟨b, off, rfl, hb, hc⟩ := h.int hlt
      by_cases h0 : xs[k] = 0
      · have h0' : (xs[k] != 0) = false := by simp [h0]
        have H0 := hid h0
        clear h0
        go_wp2
        go_round
        case rel => exact ⟨k + 1, by omega, by go_num, by
          intro x hx
          rw [List.take_succ_eq_append_getElem hlt] at hx
          rcases List.mem_append.1 hx with hx | hx
          · exact HZ.out x hx
          · simp only [List.mem_singleton] at hx; rw [hx]; exact H0.out⟩
        case measure => simp [intOf]; omega
      · have h0' : (xs[k] != 0) = true := by simp [h0]
        go_wp2
        go_ret
        exact ⟨ret_int (firstNZ_at xs k hlt HZ.out h0).symm, rfl⟩
    · go_wp2
      go_ret
      exact ⟨ret_int (firstNZ_all xs k hlt HZ.out).symm, rfl⟩

set_option maxHeartbeats 400000 in
set_option maxRecDepth 20000 in
theorem impl_CompareVerdicts (x y : Verdict) (w : World) :
    Calls Try.prog 27 #[x.val, y.val] w fun e w2 => e = .returned (.int .i64 (cmpV x y)) ∧ Ext w w2 := by
  obtain ⟨a, b, s, t⟩ := x
  obtain ⟨a', b', s', t'⟩ := y
  unfold Verdict.val
  go_enter Try.func27, Try.ntmps27
  go_wp2
  refine wp_region_still_tail 20 (by kernel_rfl) (by kernel_rfl) ?_
  simp only [List.take_succ_cons, List.take_zero, List.drop_succ_cons, List.drop_zero]
  change wpStill _ _ (World.drew _) _ _ _
  repeat (first | still_step | still_call (cmp_Compare _ _ _) | still_call (impl_compareSame _ _ _))
  refine wpStill_nil ?_
  change wpList _ _ _ _ _ (World.drew _)
  go_wp2_with fail
  refine (cmp_Or _ [cmpI a a', cmpI b b', cmpI t t', cmpB s s'] _ ?_).mono ?_
  · exact (Sl.new_ints _ [cmpI a a', cmpI b b', cmpI t t', cmpB s s'] _ _ _ (by simp) (by simp) (by simp [cmpI_64, cmpB_64]) (by simp [maxLen])).mono (Ext.refl _).drew
  rintro e w2 ⟨rfl, rfl⟩
  go_wp2
  go_ret
  exact ⟨ret_int rfl, (by repeat (first | with_reducible exact Ext.refl _ | with_reducible assumption | with_reducible refine Ext.drew ?_ | with_reducible refine Ext.alloc ?_ _ | with_reducible refine Ext.trans ?_ (by with_reducible assumption)))⟩

set_option maxHeartbeats 400000 in
set_option maxRecDepth 20000 in
theorem spec_CompareVerdicts (x y : Verdict) (w : World) :
    Calls Try.prog 55 #[x.val, y.val] w fun e w2 => e = .returned (.int .i64 (cmpV x y)) ∧ Ext w w2 := by
  obtain ⟨a, b, s, t⟩ := x
  obtain ⟨a', b', s', t'⟩ := y
  unfold Verdict.val
  go_enter Try.func55, Try.ntmps55
  go_wp2_with (go_at_call 81; refine (spec_l8Int _ _ _).mono ?_; rintro e w2 ⟨rfl, rfl⟩)
  all_goals go_ret
  all_goals refine ⟨ret_int ?_, (by repeat (first | with_reducible exact Ext.refl _ | with_reducible assumption | with_reducible refine Ext.drew ?_ | with_reducible refine Ext.alloc ?_ _ | with_reducible refine Ext.trans ?_ (by with_reducible assumption)))⟩
  all_goals (simp_all [cmpV, firstNZ, cmpB]; done)

end Go.Proofs.Ytmembjjgkideeaa

namespace Go.Proofs.Ytmembjjgkideeaa
open Go.RowKit

theorem getD_app_l {α : Type} {d : α} {a b : List α} {i : Nat} (h : i < a.length) : (a ++ b).getD i d = a.getD i d := by
  rw [List.getD_eq_getElem?_getD, List.getD_eq_getElem?_getD, List.getElem?_append_left h]
theorem getD_app_at {α : Type} {d x : α} {a : List α} : (a ++ [x]).getD a.length d = x := by
  rw [List.getD_eq_getElem?_getD, List.getElem?_append_right (Nat.le_refl _), Nat.sub_self]; rfl
theorem getD_getElem {α : Type} {d : α} {a : List α} {i : Nat} (h : i < a.length) : a.getD i d = a[i] := by
  rw [List.getD_eq_getElem?_getD, List.getElem?_eq_getElem h]; rfl
theorem getD_set {α : Type} {d : α} (a : List α) (i j : Nat) (x : α) (h : i < a.length) : (a.set i x).getD j d = if j = i then x else a.getD j d := by
  rw [List.getD_eq_getElem?_getD, List.getD_eq_getElem?_getD, List.getElem?_set]
  by_cases hij : i = j
  · subst hij; rw [if_pos rfl, if_pos rfl, if_pos h]; rfl
  · rw [if_neg hij, if_neg (fun e => hij e.symm)]
theorem getD_mem {a : List Int} {i : Nat} (h : i < a.length) : a.getD i 0 ∈ a := by rw [getD_getElem h]; exact List.getElem_mem h
theorem mem_getD {a : List Int} {x : Int} (h : x ∈ a) : ∃ i, i < a.length ∧ a.getD i 0 = x := by
  obtain ⟨i, hi, rfl⟩ := List.getElem_of_mem h
  exact ⟨i, hi, getD_getElem hi⟩

/-- the next free label -/
def nextOf (l : List Int) : Int := l.foldl (fun n x => max n (x + 1)) 0
theorem nextOf_snoc (l : List Int) (x : Int) : nextOf (l ++ [x]) = max (nextOf l) (x + 1) := by unfold nextOf; rw [List.foldl_append]; rfl
/-- each label is at most the next free one -/
def RG (l : List Int) : Prop := ∀ k, k < l.length → 0 ≤ l.getD k 0 ∧ l.getD k 0 ≤ nextOf (l.take k)
theorem RG.nil : RG [] := fun k h => by simp at h
theorem RG.init {l : List Int} {x : Int} (h : RG (l ++ [x])) : RG l ∧ 0 ≤ x ∧ x ≤ nextOf l := by
  refine ⟨fun k hk => ?_, ?_⟩
  · have := h k (by simp; omega)
    rwa [getD_app_l hk, List.take_append_of_le_length (by omega)] at this
  · have := h l.length (by simp)
    rwa [getD_app_at, List.take_left] at this
theorem RG.snoc {l : List Int} {x : Int} (h : RG l) (h0 : 0 ≤ x) (h1 : x ≤ nextOf l) : RG (l ++ [x]) := fun k hk => by
  by_cases hkl : k < l.length
  · rw [getD_app_l hkl, List.take_append_of_le_length (by omega)]; exact h k hkl
  · have : k = l.length := by simp at hk; omega
    subst this
    rw [getD_app_at, List.take_left]; exact ⟨h0, h1⟩
theorem RG.facts : ∀ (n : Nat) (l : List Int), l.length = n → RG l → 0 ≤ nextOf l ∧ (∀ v, 0 ≤ v → v < nextOf l → v ∈ l) ∧ ∀ x ∈ l, 0 ≤ x ∧ x < nextOf l
  | 0, l, h, _ => by
    have : l = [] := List.eq_nil_of_length_eq_zero h
    subst this
    exact ⟨by decide, fun v h0 h1 => absurd h1 (by show ¬ v < 0; omega), fun _ hx => by cases hx⟩
  | n + 1, l, h, hr => by
    rcases List.eq_nil_or_concat l with rfl | ⟨p, x, rfl⟩
    · simp at h
    · rw [List.concat_eq_append] at h hr ⊢
      obtain ⟨hp, x0, x1⟩ := hr.init
      obtain ⟨i1, i2, i3⟩ := RG.facts n p (by simpa using h) hp
      rw [nextOf_snoc]
      refine ⟨by omega, fun v h0 h1 => ?_, fun y hy => ?_⟩
      · by_cases hv : v < nextOf p
        · exact List.mem_append_left _ (i2 v h0 hv)
        · exact List.mem_append_right _ (by rw [List.mem_singleton]; omega)
      · rcases List.mem_append.1 hy with hy | hy
        · have := i3 y hy; omega
        · rw [List.mem_singleton] at hy; omega
theorem RG.mem {l : List Int} (h : RG l) {v : Int} (h0 : 0 ≤ v) (h1 : v < nextOf l) : v ∈ l := (RG.facts _ l rfl h).2.1 v h0 h1
theorem RG.lt {l : List Int} (h : RG l) {x : Int} (hx : x ∈ l) : 0 ≤ x ∧ x < nextOf l := (RG.facts _ l rfl h).2.2 x hx

/-- the same elements are equal -/
def SameK (a b : List Int) : Prop := a.length = b.length ∧ ∀ i j, i < a.length → j < a.length → (a.getD i 0 = a.getD j 0 ↔ b.getD i 0 = b.getD j 0)
theorem SameK.symm {a b : List Int} (h : SameK a b) : SameK b a := ⟨h.1.symm, fun i j hi hj => (h.2 i j (by rw [h.1]; exact hi) (by rw [h.1]; exact hj)).symm⟩
theorem SameK.trans {a b c : List Int} (h : SameK a b) (k : SameK b c) : SameK a c := ⟨h.1.trans k.1, fun i j hi hj => (h.2 i j hi hj).trans (k.2 i j (by rw [← h.1]; exact hi) (by rw [← h.1]; exact hj))⟩
theorem SameK.init {a b : List Int} {x y : Int} (h : SameK (a ++ [x]) (b ++ [y])) : SameK a b ∧ ∀ i, i < a.length → (a.getD i 0 = x ↔ b.getD i 0 = y) := by
  have hl : a.length = b.length := by have := h.1; simpa using this
  refine ⟨⟨hl, fun i j hi hj => ?_⟩, fun i hi => ?_⟩
  · have := h.2 i j (by simp; omega) (by simp; omega)
    rwa [getD_app_l hi, getD_app_l hj, getD_app_l (by omega), getD_app_l (by omega)] at this
  · have := h.2 i a.length (by simp; omega) (by simp)
    rw [getD_app_l hi, getD_app_at, getD_app_l (by omega)] at this
    rw [this, hl, getD_app_at]
theorem RG.unique : ∀ (n : Nat) (a b : List Int), a.length = n → RG a → RG b → SameK a b → a = b
  | 0, a, b, h, _, _, hs => by
    have h1 : a = [] := List.eq_nil_of_length_eq_zero h
    have h2 : b = [] := List.eq_nil_of_length_eq_zero (by rw [← hs.1]; exact h)
    rw [h1, h2]
  | n + 1, a, b, h, ha, hb, hs => by
    rcases List.eq_nil_or_concat a with rfl | ⟨p, x, rfl⟩
    · simp at h
    · rcases List.eq_nil_or_concat b with rfl | ⟨q, y, rfl⟩
      · have := hs.1; simp at this
      · rw [List.concat_eq_append] at h ha hs ⊢
        rw [List.concat_eq_append] at hb hs ⊢
        obtain ⟨hp, x0, x1⟩ := ha.init
        obtain ⟨hq, y0, y1⟩ := hb.init
        obtain ⟨hs1, hs2⟩ := hs.init
        have e := RG.unique n p q (by simpa using h) hp hq hs1
        subst e
        have hxy : x = y := by
          by_cases hx : x ∈ p
          · obtain ⟨i, hi, e⟩ := mem_getD hx
            have := (hs2 i hi).1 e
            omega
          · by_cases hy : y ∈ p
            · obtain ⟨i, hi, e⟩ := mem_getD hy
              have := (hs2 i hi).2 e
              omega
            · have h1 : ¬ x < nextOf p := fun h => hx (hp.mem x0 h)
              have h2 : ¬ y < nextOf p := fun h => hy (hp.mem y0 h)
              omega
        rw [hxy]

/-! ### Canonical labels -/
def seenSt (s : List Int) (x : Int) : List Int := if idxI x s < 0 then s ++ [x] else s
def seenL (l : List Int) : List Int := l.foldl seenSt []
def canonL (l : List Int) : List Int := l.map fun x => idxI x (seenL l)
theorem seenL_snoc (l : List Int) (x : Int) : seenL (l ++ [x]) = seenSt (seenL l) x := by unfold seenL; rw [List.foldl_append]; rfl
theorem idxF_cases {α : Type} (p : α → Bool) : ∀ (xs : List α) (k : Nat), (idxF p k xs = -1 ∧ ∀ x ∈ xs, p x = false) ∨ ∃ (j : Nat) (h : j < xs.length), idxF p k xs = (k + j : Nat) ∧ p xs[j] = true ∧ ∀ (i : Nat) (hi : i < j), p (xs[i]'(by omega)) = false
  | [], k => .inl ⟨rfl, fun _ h => by cases h⟩
  | x :: xs, k => by
    by_cases hp : p x = true
    · refine .inr ⟨0, by simp, ?_, hp, fun i hi => by omega⟩
      rw [idxF, if_pos hp]; simp
    · have hp' : p x = false := by simpa using hp
      rw [idxF, if_neg hp]
      rcases idxF_cases p xs (k + 1) with ⟨h1, h2⟩ | ⟨j, hj, h1, h2, h3⟩
      · exact .inl ⟨h1, fun y hy => by
          rcases List.mem_cons.1 hy with rfl | hy
          · exact hp'
          · exact h2 y hy⟩
      · refine .inr ⟨j + 1, by simp; omega, ?_, ?_, fun i hi => ?_⟩
        · rw [h1]; congr 1; omega
        · simpa using h2
        · cases i with
          | zero => simpa using hp'
          | succ i => simpa using h3 i (by omega)
theorem idxI_cases (x : Int) (s : List Int) : (idxI x s = -1 ∧ x ∉ s) ∨ ∃ j, j < s.length ∧ idxI x s = (j : Int) ∧ s.getD j 0 = x ∧ ∀ i, i < j → s.getD i 0 ≠ x := by
  unfold idxI
  rcases idxF_cases (fun y => y == x) s 0 with ⟨h1, h2⟩ | ⟨j, hj, h1, h2, h3⟩
  · exact .inl ⟨h1, fun hx => by have := h2 x hx; simp at this⟩
  · refine .inr ⟨j, hj, by rw [h1]; simp, by rw [getD_getElem hj]; simpa using h2, fun i hi => ?_⟩
    have := h3 i hi
    rw [getD_getElem (by omega)]
    simpa using this
theorem idxI_neg {x : Int} {s : List Int} : idxI x s < 0 ↔ x ∉ s := by
  rcases idxI_cases x s with ⟨h1, h2⟩ | ⟨j, hj, h1, h2, h3⟩
  · exact ⟨fun _ => h2, fun _ => by omega⟩
  · exact ⟨fun h => by omega, fun h => absurd (h2 ▸ getD_mem hj) h⟩
theorem idxI_app {x : Int} {s : List Int} (h : x ∈ s) (t : List Int) : idxI x (s ++ t) = idxI x s := by
  rcases idxI_cases x s with ⟨h1, h2⟩ | ⟨j, hj, h1, h2, h3⟩
  · exact absurd h h2
  · rcases idxI_cases x (s ++ t) with ⟨k1, k2⟩ | ⟨i, hi, k1, k2, k3⟩
    · exact absurd (List.mem_append_left _ h) k2
    · have e : i = j := by
        by_cases h4 : i < j
        · rw [getD_app_l (by omega)] at k2; exact absurd k2 (h3 i h4)
        · by_cases h5 : j < i
          · have := k3 j h5; rw [getD_app_l hj] at this; exact absurd h2 this
          · omega
      rw [k1, h1, e]
theorem idxI_last {x : Int} {s : List Int} (h : x ∉ s) : idxI x (s ++ [x]) = (s.length : Int) := by
  rcases idxI_cases x (s ++ [x]) with ⟨k1, k2⟩ | ⟨i, hi, k1, k2, k3⟩
  · exact absurd (List.mem_append_right _ (List.mem_singleton_self _)) k2
  · have hi2 : i < s.length + 1 := by simpa using hi
    have e : i = s.length := by
      by_cases h4 : i < s.length
      · rw [getD_app_l h4] at k2; exact absurd (k2 ▸ getD_mem h4) h
      · omega
    rw [k1, e]
theorem idxI_inj {x y : Int} {s : List Int} (hx : x ∈ s) (h : idxI x s = idxI y s) : x = y := by
  rcases idxI_cases x s with ⟨h1, h2⟩ | ⟨j, hj, h1, h2, h3⟩
  · exact absurd hx h2
  · rcases idxI_cases y s with ⟨k1, k2⟩ | ⟨i, hi, k1, k2, k3⟩
    · omega
    · have : i = j := by omega
      subst this
      rw [← h2, ← k2]
theorem seenL_mem (x : Int) : ∀ (n : Nat) (l : List Int), l.length = n → (x ∈ seenL l ↔ x ∈ l)
  | 0, l, h => by
    have : l = [] := List.eq_nil_of_length_eq_zero h
    subst this
    exact Iff.rfl
  | n + 1, l, h => by
    rcases List.eq_nil_or_concat l with rfl | ⟨p, y, rfl⟩
    · simp at h
    · rw [List.concat_eq_append] at h ⊢
      have ih := seenL_mem x n p (by simpa using h)
      rw [seenL_snoc, List.mem_append, List.mem_singleton, ← ih]
      unfold seenSt
      by_cases hy : idxI y (seenL p) < 0
      · rw [if_pos hy, List.mem_append, List.mem_singleton]
      · rw [if_neg hy]
        have hm : y ∈ seenL p := Classical.byContradiction fun hn => hy (idxI_neg.2 hn)
        exact ⟨.inl, fun h => h.elim id fun e => e ▸ hm⟩
theorem canonL_len (l : List Int) : (canonL l).length = l.length := by unfold canonL; rw [List.length_map]
theorem canonL_getD {l : List Int} {i : Nat} (h : i < l.length) : (canonL l).getD i 0 = idxI (l.getD i 0) (seenL l) := by
  rw [getD_getElem (by rw [canonL_len]; exact h), getD_getElem h]
  unfold canonL
  rw [List.getElem_map]
theorem canonL_snoc (l : List Int) (x : Int) : canonL (l ++ [x]) = canonL l ++ [idxI x (seenSt (seenL l) x)] := by
  unfold canonL
  rw [List.map_append, seenL_snoc]
  congr 1
  apply List.map_congr_left
  intro y hy
  have hm : y ∈ seenL l := (seenL_mem y _ l rfl).2 hy
  unfold seenSt
  split
  · exact idxI_app hm _
  · rfl
theorem canonL_rg : ∀ (n : Nat) (l : List Int), l.length = n → RG (canonL l) ∧ nextOf (canonL l) = (seenL l).length
  | 0, l, h => by
    have : l = [] := List.eq_nil_of_length_eq_zero h
    subst this
    exact ⟨RG.nil, rfl⟩
  | n + 1, l, h => by
    rcases List.eq_nil_or_concat l with rfl | ⟨p, x, rfl⟩
    · simp at h
    · rw [List.concat_eq_append] at h ⊢
      obtain ⟨i1, i2⟩ := canonL_rg n p (by simpa using h)
      rw [canonL_snoc, seenL_snoc]
      unfold seenSt
      by_cases hx : idxI x (seenL p) < 0
      · rw [if_pos hx]
        have e := idxI_last (idxI_neg.1 hx)
        rw [e]
        refine ⟨i1.snoc (by omega) (by omega), ?_⟩
        rw [nextOf_snoc, i2, List.length_append, List.length_singleton]
        omega
      · rw [if_neg hx]
        rcases idxI_cases x (seenL p) with ⟨h1, _⟩ | ⟨j, hj, h1, _, _⟩
        · omega
        · rw [h1]
          refine ⟨i1.snoc (by omega) (by omega), ?_⟩
          rw [nextOf_snoc, i2]
          omega
theorem canonL_same (l : List Int) : SameK (canonL l) l := by
  refine ⟨canonL_len l, fun i j hi hj => ?_⟩
  rw [canonL_len] at hi hj
  rw [canonL_getD hi, canonL_getD hj]
  exact ⟨fun h => idxI_inj ((seenL_mem _ _ l rfl).2 (getD_mem hi)) h, fun h => by rw [h]⟩
theorem canonL_RG (l : List Int) : RG (canonL l) := (canonL_rg _ l rfl).1
theorem canonL_eq {a b : List Int} (h : SameK a b) : canonL a = canonL b := RG.unique _ _ _ rfl (canonL_RG a) (canonL_RG b) ((canonL_same a).trans (h.trans (canonL_same b).symm))
theorem canonL_of_rg {a : List Int} (h : RG a) : canonL a = a := RG.unique _ _ _ rfl (canonL_RG a) h (canonL_same a)

/-! ### Components -/
inductive Conn {α : Type} (R : α → α → Prop) (a : α) : α → Prop
  | refl : Conn R a a
  | step {b c : α} : Conn R a b → (R b c ∨ R c b) → Conn R a c
theorem Conn.trans {α : Type} {R : α → α → Prop} {a b c : α} (h : Conn R a b) (k : Conn R b c) : Conn R a c := by
  induction k with
  | refl => exact h
  | step _ l ih => exact ih.step l
theorem Conn.one {α : Type} {R : α → α → Prop} {a b : α} (h : R a b) : Conn R a b := Conn.refl.step (.inl h)
theorem Conn.symm {α : Type} {R : α → α → Prop} {a b : α} (h : Conn R a b) : Conn R b a := by
  induction h with
  | refl => exact .refl
  | step _ l ih => exact (Conn.refl.step l.symm).trans ih
theorem Conn.keep {α : Type} {R : α → α → Prop} {S : α → Prop} (hS : ∀ a b, S a → (R a b ∨ R b a) → S b) {a b : α} (h : Conn R a b) (ha : S a) : S b := by
  induction h with
  | refl => exact ha
  | step _ l ih => exact hS _ _ ih l
theorem Conn.mono {α : Type} {R Q : α → α → Prop} (hQ : ∀ a b, R a b → Conn Q a b) {a b : α} (h : Conn R a b) : Conn Q a b := by
  induction h with
  | refl => exact .refl
  | step _ l ih => exact l.elim (fun l => ih.trans (hQ _ _ l)) fun l => ih.trans (hQ _ _ l).symm
open Classical in
noncomputable def repC (R : Nat → Nat → Prop) (n i : Nat) : Int := (((List.range n).find? fun j => decide (Conn R j i)).getD 0 : Nat)
theorem repC_iff {R : Nat → Nat → Prop} {n i j : Nat} (hi : i < n) (hj : j < n) : repC R n i = repC R n j ↔ Conn R i j := by
  classical
  unfold repC
  constructor
  · intro h
    have key : ∀ i, i < n → ∃ k, ((List.range n).find? fun j => decide (Conn R j i)) = some k ∧ Conn R k i := fun i hi => by
      cases hf : (List.range n).find? fun j => decide (Conn R j i) with
      | none =>
        have := List.find?_eq_none.1 hf i (List.mem_range.2 hi)
        exact absurd (decide_eq_true Conn.refl) this
      | some k =>
        have h2 := List.find?_some hf
        exact ⟨k, rfl, of_decide_eq_true h2⟩
    obtain ⟨k, e1, c1⟩ := key i hi
    obtain ⟨k2, e2, c2⟩ := key j hj
    rw [e1, e2] at h
    have h4 : ((k : Nat) : Int) = (k2 : Int) := h
    have hk : k = k2 := by omega
    subst hk
    exact c1.symm.trans c2
  · intro h
    have e : (fun k => decide (Conn R k i)) = fun k => decide (Conn R k j) := by
      funext k
      have : Conn R k i ↔ Conn R k j := ⟨fun c => c.trans h, fun c => c.trans h.symm⟩
      simp only [this]
    rw [show ((List.range n).find? fun k => decide (Conn R k i)) = (List.range n).find? fun k => decide (Conn R k j) from by rw [e]]
/-- labels of the components: by their least elements -/
noncomputable def compL (n : Nat) (R : Nat → Nat → Prop) : List Int := canonL ((List.range n).map (repC R n))
def IsComp (n : Nat) (R : Nat → Nat → Prop) (l : List Int) : Prop := l.length = n ∧ RG l ∧ ∀ i j, i < n → j < n → (l.getD i 0 = l.getD j 0 ↔ Conn R i j)
theorem IsComp.unique {n : Nat} {R : Nat → Nat → Prop} {a b : List Int} (ha : IsComp n R a) (hb : IsComp n R b) : a = b :=
  RG.unique _ a b rfl ha.2.1 hb.2.1 ⟨ha.1.trans hb.1.symm, fun i j hi hj => (ha.2.2 i j (by rw [← ha.1]; exact hi) (by rw [← ha.1]; exact hj)).trans (hb.2.2 i j (by rw [← ha.1]; exact hi) (by rw [← ha.1]; exact hj)).symm⟩
theorem compL_is (n : Nat) (R : Nat → Nat → Prop) : IsComp n R (compL n R) := by
  have hl : ((List.range n).map (repC R n)).length = n := by rw [List.length_map, List.length_range]
  refine ⟨by unfold compL; rw [canonL_len, hl], canonL_RG _, fun i j hi hj => ?_⟩
  have hs := (canonL_same ((List.range n).map (repC R n))).2 i j (by rw [canonL_len, hl]; exact hi) (by rw [canonL_len, hl]; exact hj)
  have e : ∀ i, i < n → ((List.range n).map (repC R n)).getD i 0 = repC R n i := fun i hi => by
    rw [getD_getElem (by rw [hl]; exact hi), List.getElem_map, List.getElem_range]
  rw [e i hi, e j hj] at hs
  exact hs.trans (repC_iff hi hj)
theorem IsComp.eq {n : Nat} {R : Nat → Nat → Prop} {a : List Int} (ha : IsComp n R a) : a = compL n R := ha.unique (compL_is n R)
theorem compL_congr {n : Nat} {R Q : Nat → Nat → Prop} (h : ∀ i j, i < n → j < n → (Conn R i j ↔ Conn Q i j)) : compL n R = compL n Q := by
  have := compL_is n R
  exact IsComp.eq ⟨this.1, this.2.1, fun i j hi hj => (this.2.2 i j hi hj).trans (h i j hi hj)⟩

/-- what a search from i leaves: l before, l' behind, c the label -/
structure Vis (R : Nat → Nat → Prop) (n : Nat) (c : Int) (i : Nat) (l l' : List Int) : Prop where
  len : l'.length = n
  keep : ∀ a, a < n → 0 ≤ l.getD a 0 → l'.getD a 0 = l.getD a 0
  new : ∀ a, a < n → l.getD a 0 < 0 → l'.getD a 0 = l.getD a 0 ∨ l'.getD a 0 = c
  root : l'.getD i 0 = c
  conn : ∀ a, a < n → l.getD a 0 < 0 → l'.getD a 0 = c → Conn R i a
  closed : ∀ a b, a < n → b < n → l.getD a 0 < 0 → l'.getD a 0 = c → R a b → 0 ≤ l'.getD b 0
/-- the loop over all items: i items are done, c labels are in use -/
structure Out (R : Nat → Nat → Prop) (n : Nat) (i : Nat) (l : List Int) (c : Int) : Prop where
  len : l.length = n
  bd : ∀ a, a < n → l.getD a 0 = -1 ∨ (0 ≤ l.getD a 0 ∧ l.getD a 0 < c)
  done : ∀ a, a < n → a < i → 0 ≤ l.getD a 0
  closed : ∀ a b, a < n → b < n → 0 ≤ l.getD a 0 → R a b → l.getD b 0 = l.getD a 0
  conn : ∀ a b, a < n → b < n → 0 ≤ l.getD a 0 → l.getD a 0 = l.getD b 0 → Conn R a b
  rg : RG (l.take i)
  next : nextOf (l.take i) = c
theorem take_snocD {l : List Int} {i : Nat} (h : i < l.length) : l.take (i + 1) = l.take i ++ [l.getD i 0] := by
  rw [List.take_succ_eq_append_getElem h, getD_getElem h]
theorem Out.skip {R : Nat → Nat → Prop} {n i : Nat} {l : List Int} {c : Int} (h : Out R n i l c) (hi : i < n) (h0 : 0 ≤ l.getD i 0) : Out R n (i + 1) l c := by
  have hb := h.bd i hi
  have hn := h.next
  refine ⟨h.len, h.bd, fun a ha hai => ?_, h.closed, h.conn, ?_, ?_⟩
  · by_cases e : a = i
    · subst e; exact h0
    · exact h.done a ha (by omega)
  · rw [take_snocD (by rw [h.len]; exact hi)]; exact h.rg.snoc h0 (by omega)
  · rw [take_snocD (by rw [h.len]; exact hi), nextOf_snoc, hn]; omega
theorem take_congrD {a b : List Int} (i : Nat) (hl : a.length = b.length) (hi : i ≤ a.length) (h : ∀ k, k < i → a.getD k 0 = b.getD k 0) : a.take i = b.take i := by
  apply List.ext_getElem (by rw [List.length_take, List.length_take, hl])
  intro k h1 h2
  rw [List.length_take] at h1
  have := h k (by omega)
  rw [getD_getElem (by omega), getD_getElem (by omega)] at this
  rw [List.getElem_take, List.getElem_take]
  exact this
theorem Out.visit {R : Nat → Nat → Prop} (hR : ∀ a b, R a b → R b a) {n i : Nat} {l l' : List Int} {c : Int} (h : Out R n i l c) (hi : i < n) (h0 : l.getD i 0 < 0) (v : Vis R n c i l l') : Out R n (i + 1) l' (c + 1) := by
  have hc0 : 0 ≤ c := by rw [← h.next]; exact (RG.facts _ _ rfl h.rg).1
  have hcl : ∀ a b, a < n → b < n → l.getD a 0 < 0 → l'.getD a 0 = c → R a b → l'.getD b 0 = c := fun a b ha hb h1 h2 hr => by
    have h3 := v.closed a b ha hb h1 h2 hr
    by_cases h4 : 0 ≤ l.getD b 0
    · have := h.closed b a hb ha h4 (hR _ _ hr)
      omega
    · rcases v.new b hb (by omega) with h5 | h5
      · omega
      · exact h5
  have hbd : ∀ a, a < n → l'.getD a 0 = -1 ∨ (0 ≤ l'.getD a 0 ∧ l'.getD a 0 < c + 1) := fun a ha => by
    rcases h.bd a ha with h1 | h1
    · rcases v.new a ha (by omega) with h2 | h2 <;> omega
    · have := v.keep a ha h1.1; omega
  have htk : l'.take i = l.take i := take_congrD i (by rw [v.len, h.len]) (by rw [v.len]; omega) fun k hk => v.keep k (by omega) (h.done k (by omega) hk)
  refine ⟨v.len, hbd, fun a ha hai => ?_, fun a b ha hb h1 hr => ?_, fun a b ha hb h1 h2 => ?_, ?_, ?_⟩
  · by_cases e : a = i
    · subst e; rw [v.root]; exact hc0
    · have h1 := h.done a ha (by omega)
      rw [v.keep a ha h1]; exact h1
  · by_cases h3 : 0 ≤ l.getD a 0
    · have h4 := h.closed a b ha hb h3 hr
      rw [v.keep a ha h3, v.keep b hb (by omega), h4]
    · have h4 : l'.getD a 0 = c := by rcases v.new a ha (by omega) with h5 | h5 <;> omega
      rw [hcl a b ha hb (by omega) h4 hr, h4]
  · by_cases h3 : 0 ≤ l.getD a 0
    · by_cases h4 : 0 ≤ l.getD b 0
      · exact h.conn a b ha hb h3 (by rw [← v.keep a ha h3, ← v.keep b hb h4]; exact h2)
      · have h5 := v.keep a ha h3
        have h6 : l.getD a 0 < c := by rcases h.bd a ha with h | h <;> omega
        rcases v.new b hb (by omega) with h7 | h7 <;> omega
    · have h5 : l'.getD a 0 = c := by rcases v.new a ha (by omega) with h5 | h5 <;> omega
      by_cases h4 : 0 ≤ l.getD b 0
      · have h6 := v.keep b hb h4
        have h7 : l.getD b 0 < c := by rcases h.bd b hb with h | h <;> omega
        omega
      · exact (v.conn a ha (by omega) h5).symm.trans (v.conn b hb (by omega) (by omega))
  · rw [take_snocD (by rw [v.len]; exact hi), htk, v.root]
    exact h.rg.snoc hc0 (by rw [h.next]; exact Int.le_refl _)
  · rw [take_snocD (by rw [v.len]; exact hi), htk, v.root, nextOf_snoc, h.next]; omega
theorem Out.start (R : Nat → Nat → Prop) (n : Nat) : Out R n 0 (List.replicate n (-1)) 0 := by
  have e : ∀ a, a < n → (List.replicate n (-1 : Int)).getD a 0 = -1 := fun a ha => by rw [getD_getElem (by rw [List.length_replicate]; exact ha), List.getElem_replicate]
  refine ⟨List.length_replicate, fun a ha => .inl (e a ha), fun a _ h => by omega, fun a b ha _ h => ?_, fun a b ha _ h => ?_, RG.nil, rfl⟩
  · rw [e a ha] at h; omega
  · rw [e a ha] at h; omega
theorem Out.fin {n : Nat} {R : Nat → Nat → Prop} (hR : ∀ a b, R a b → R b a) (hN : ∀ a b, R a b → a < n ∧ b < n) {l : List Int} {c : Int} (h : Out R n n l c) : l = compL n R := by
  have ht : l.take n = l := List.take_of_length_le (by rw [h.len]; exact Nat.le_refl _)
  refine IsComp.eq ⟨h.len, ht ▸ h.rg, fun i j hi hj => ⟨h.conn i j hi hj (h.done i hi hi), fun hc => ?_⟩⟩
  have := Conn.keep (S := fun b => b < n ∧ l.getD b 0 = l.getD i 0) (fun a b ⟨ha, he⟩ hl => by
    have hr : R a b := hl.elim id (hR _ _)
    have hb := (hN _ _ hr).2
    exact ⟨hb, (h.closed a b ha hb (h.done a ha ha) hr).trans he⟩) hc ⟨hi, rfl⟩
  exact this.2.symm

/-- in the loop over the row of i: the first k items are done -/
structure Row (R : Nat → Nat → Prop) (n : Nat) (c : Int) (i k : Nat) (l l' : List Int) : Prop where
  len : l'.length = n
  keep : ∀ a, a < n → 0 ≤ l.getD a 0 → l'.getD a 0 = l.getD a 0
  new : ∀ a, a < n → l.getD a 0 < 0 → l'.getD a 0 = l.getD a 0 ∨ l'.getD a 0 = c
  root : l'.getD i 0 = c
  conn : ∀ a, a < n → l.getD a 0 < 0 → l'.getD a 0 = c → Conn R i a
  closed : ∀ a b, a < n → b < n → a ≠ i → l.getD a 0 < 0 → l'.getD a 0 = c → R a b → 0 ≤ l'.getD b 0
  done : ∀ b, b < n → b < k → R i b → 0 ≤ l'.getD b 0
theorem Row.start {R : Nat → Nat → Prop} {n : Nat} {c : Int} {i : Nat} {l : List Int} (hl : l.length = n) (hi : i < n) (h0 : l.getD i 0 < 0) (hc : 0 ≤ c) : Row R n c i 0 l (l.set i c) := by
  have e : ∀ a, (l.set i c).getD a 0 = if a = i then c else l.getD a 0 := fun a => getD_set l i a c (by omega)
  refine ⟨by rw [List.length_set]; exact hl, fun a _ h => ?_, fun a _ h => ?_, ?_, fun a _ h1 h2 => ?_, fun a b _ _ hne h1 h2 _ => ?_, fun b _ h => by omega⟩
  · rw [e, if_neg (fun e => by subst e; omega)]
  · rw [e]; split
    · exact .inr rfl
    · exact .inl rfl
  · rw [e, if_pos rfl]
  · rw [e] at h2
    split at h2
    · rename_i ea; subst ea; exact .refl
    · omega
  · rw [e, if_neg hne] at h2; omega
theorem Row.skip {R : Nat → Nat → Prop} {n : Nat} {c : Int} {i k : Nat} {l l' : List Int} (h : Row R n c i k l l') (hk : R i k → 0 ≤ l'.getD k 0) : Row R n c i (k + 1) l l' :=
  ⟨h.len, h.keep, h.new, h.root, h.conn, h.closed, fun b hb hbk hr => by
    by_cases e : b = k
    · subst e; exact hk hr
    · exact h.done b hb (by omega) hr⟩
theorem Row.visit {R : Nat → Nat → Prop} {n : Nat} {c : Int} {i k : Nat} {l l1 l2 : List Int} (hc : 0 ≤ c) (h : Row R n c i k l l1) (hk : k < n) (hr : R i k) (h0 : l1.getD k 0 < 0) (v : Vis R n c k l1 l2) (hi : i < n) : Row R n c i (k + 1) l l2 := by
  have hkeep : ∀ a, a < n → 0 ≤ l1.getD a 0 → l2.getD a 0 = l1.getD a 0 := v.keep
  refine ⟨v.len, fun a ha h1 => ?_, fun a ha h1 => ?_, ?_, fun a ha h1 h2 => ?_, fun a b ha hb hne h1 h2 hab => ?_, fun b hb hbk hib => ?_⟩
  · have := h.keep a ha h1
    rw [hkeep a ha (by omega), this]
  · rcases h.new a ha h1 with h2 | h2
    · rcases v.new a ha (by omega) with h3 | h3
      · exact .inl (h3.trans h2)
      · exact .inr h3
    · exact .inr ((hkeep a ha (by omega)).trans h2)
  · rw [hkeep i hi (by rw [h.root]; exact hc), h.root]
  · rcases h.new a ha h1 with h3 | h3
    · exact (Conn.one hr).trans (v.conn a ha (by omega) h2)
    · exact h.conn a ha h1 h3
  · rcases h.new a ha h1 with h3 | h3
    · exact v.closed a b ha hb (by omega) h2 hab
    · have := h.closed a b ha hb hne h1 h3 hab
      rw [hkeep b hb this]; exact this
  · by_cases e : b = k
    · subst e; rw [v.root]; exact hc
    · have := h.done b hb (by omega) hib
      rw [hkeep b hb this]; exact this
theorem Row.fin {R : Nat → Nat → Prop} {n : Nat} {c : Int} {i : Nat} {l l' : List Int} (h : Row R n c i n l l') : Vis R n c i l l' :=
  ⟨h.len, h.keep, h.new, h.root, h.conn, fun a b ha hb h1 h2 hr => by
    by_cases e : a = i
    · subst e; exact h.done b hb hb hr
    · exact h.closed a b ha hb e h1 h2 hr⟩
/-- how many have no label -/
def negs (n : Nat) (l : List Int) : Nat := (List.range n).countP fun a => decide (l.getD a 0 < 0)
theorem countP_lt {p q : Nat → Bool} : ∀ (xs : List Nat), (∀ x ∈ xs, p x = true → q x = true) → (∃ x ∈ xs, p x = false ∧ q x = true) → xs.countP p < xs.countP q
  | [], _, ⟨x, hx, _⟩ => by cases hx
  | y :: ys, h1, ⟨x, hx, h2, h3⟩ => by
    have hle : ys.countP p ≤ ys.countP q := List.countP_mono_left fun z hz => h1 z (List.mem_cons_of_mem _ hz)
    rw [List.countP_cons, List.countP_cons]
    rcases List.mem_cons.1 hx with rfl | hx
    · rw [h2, h3]; simp; omega
    · have ih := countP_lt ys (fun z hz => h1 z (List.mem_cons_of_mem _ hz)) ⟨x, hx, h2, h3⟩
      have hy := h1 y (List.mem_cons_self ..)
      cases hp : p y with
      | false => simp only [hp, Bool.false_eq_true, if_false]; split <;> omega
      | true => rw [hy hp]; simp; exact ih
theorem Row.negs {R : Nat → Nat → Prop} {n : Nat} {c : Int} {i k : Nat} {l l' : List Int} (h : Row R n c i k l l') (hi : i < n) (h0 : l.getD i 0 < 0) (hc : 0 ≤ c) : Go.Proofs.Ytmembjjgkideeaa.negs n l' < Go.Proofs.Ytmembjjgkideeaa.negs n l := by
  unfold Go.Proofs.Ytmembjjgkideeaa.negs
  refine countP_lt _ (fun a ha h1 => ?_) ⟨i, List.mem_range.2 hi, ?_, ?_⟩
  · rw [decide_eq_true_eq] at h1 ⊢
    have ha := List.mem_range.1 ha
    by_cases h2 : 0 ≤ l.getD a 0
    · have := h.keep a ha h2; omega
    · omega
  · rw [decide_eq_false_iff_not, h.root]; omega
  · rw [decide_eq_true_eq]; exact h0
end Go.Proofs.Ytmembjjgkideeaa

namespace Go.Proofs.Ytmembjjgkideeaa
open Go.RowKit

def conOk (n : Int) (c : Constraint) : Bool := decide (0 ≤ c.a) && decide (c.a < n) && (decide (0 ≤ c.b) && decide (c.b < n)) && decide (c.a < c.b)
def areConB (n : Int) (l : List Constraint) : Bool := decide (1 ≤ n) && decide (n ≤ 8) && decide (l.length ≤ 10) && l.all (conOk n)
def mustR (l : List Constraint) (i j : Nat) : Prop := ∃ c ∈ l, c.same = true ∧ ((c.a = (i : Int) ∧ c.b = (j : Int)) ∨ (c.a = (j : Int) ∧ c.b = (i : Int)))
noncomputable def mustL (n : Int) (l : List Constraint) : List Int := if areConB n l then compL n.toNat (mustR l) else []
def cutB (p : List Int) (c : Constraint) : Bool := !c.same && p.getD c.a.toNat 0 == p.getD c.b.toNat 0
noncomputable def findC (n : Int) (l : List Constraint) : Int := if areConB n l then idxF (cutB (mustL n l)) 0 l else -1
noncomputable def consistB (n : Int) (l : List Constraint) : Bool := areConB n l && decide (findC n l < 0)
theorem areCon_iff {n : Int} {l : List Constraint} : areConB n l = true ↔ 1 ≤ n ∧ n ≤ 8 ∧ l.length ≤ 10 ∧ ∀ c ∈ l, 0 ≤ c.a ∧ c.a < n ∧ 0 ≤ c.b ∧ c.b < n ∧ c.a < c.b := by
  unfold areConB conOk
  simp only [Bool.and_eq_true, decide_eq_true_eq, List.all_eq_true]
  constructor
  · rintro ⟨⟨⟨h1, h2⟩, h3⟩, h4⟩
    exact ⟨h1, h2, h3, fun c hc => by have := h4 c hc; omega⟩
  · rintro ⟨h1, h2, h3, h4⟩
    exact ⟨⟨⟨h1, h2⟩, h3⟩, fun c hc => by have := h4 c hc; omega⟩
theorem mustR_symm {l : List Constraint} {i j : Nat} (h : mustR l i j) : mustR l j i := by
  obtain ⟨c, hc, hs, h⟩ := h
  exact ⟨c, hc, hs, h.symm⟩
theorem mustR_lt {n : Int} {l : List Constraint} (h : areConB n l = true) {i j : Nat} (hr : mustR l i j) : i < n.toNat ∧ j < n.toNat := by
  obtain ⟨c, hc, _, h1⟩ := hr
  obtain ⟨k1, k2, k3, k4⟩ := areCon_iff.1 h
  have := k4 c hc
  rcases h1 with h1 | h1 <;> omega
theorem mustL_conn {n : Int} {l : List Constraint} (h : areConB n l = true) {i j : Nat} (hi : i < n.toNat) (hj : j < n.toNat) : (mustL n l).getD i 0 = (mustL n l).getD j 0 ↔ Conn (mustR l) i j := by
  unfold mustL
  rw [if_pos h]
  exact (compL_is n.toNat (mustR l)).2.2 i j hi hj
theorem mustL_len {n : Int} {l : List Constraint} (h : areConB n l = true) : (mustL n l).length = n.toNat := by
  unfold mustL
  rw [if_pos h]
  exact (compL_is n.toNat (mustR l)).1
theorem cut_iff {n : Int} {l : List Constraint} (h : areConB n l = true) {c : Constraint} (hc : c ∈ l) : cutB (mustL n l) c = true ↔ c.same = false ∧ Conn (mustR l) c.a.toNat c.b.toNat := by
  have := (areCon_iff.1 h).2.2.2 c hc
  unfold cutB
  rw [Bool.and_eq_true, Bool.not_eq_true', beq_iff_eq, mustL_conn h (by omega) (by omega)]
/-- consistent: no cannot-link within a component -/
theorem consist_iff {n : Int} {l : List Constraint} (h : areConB n l = true) : consistB n l = true ↔ ∀ c ∈ l, c.same = false → ¬ Conn (mustR l) c.a.toNat c.b.toNat := by
  unfold consistB findC
  rw [h, if_pos rfl, Bool.true_and, decide_eq_true_eq]
  rcases idxF_cases (cutB (mustL n l)) l 0 with ⟨h1, h2⟩ | ⟨j, hj, h1, h2, h3⟩
  · rw [h1]
    refine ⟨fun _ c hc hs hco => ?_, fun _ => by omega⟩
    have := (cut_iff h hc).2 ⟨hs, hco⟩
    rw [h2 c hc] at this
    cases this
  · rw [h1]
    refine ⟨fun h => by omega, fun hall => ?_⟩
    obtain ⟨k1, k2⟩ := (cut_iff h (List.getElem_mem hj)).1 h2
    exact absurd k2 (hall _ (List.getElem_mem hj) k1)
end Go.Proofs.Ytmembjjgkideeaa
