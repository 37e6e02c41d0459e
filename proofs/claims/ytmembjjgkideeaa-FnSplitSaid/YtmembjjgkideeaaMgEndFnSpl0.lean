/-
  SEVERAL SMALL TEXTS LAID TOGETHER: Bit, FnSpP, Has, ConI, Wm, Draw, MustP, WmI, DrawM, Big, DrawK, DrawV, DrawSp.
-/
import Derived.Test.YtmembjjgkideeaaMgEndSpl0
import Derived.Laws.BitsAllLaws
import Derived.Laws.BitsLemmas
import Derived.Test.YtmembjjgkideeaaMgEndSpl14
import Derived.Test.YtmembjjgkideeaaMgEndSpl5
import Derived.Laws.Bits128
import Derived.Test.YtmembjjgkideeaaMgEndSpl9
import Derived.Test.YtmembjjgkideeaaMgEndSpl11

namespace Go.Proofs.Ytmembjjgkideeaa
open Go.RowKit

theorem nat_i64 (a : Nat) (h : a < 2 ^ 63) : (BitVec.ofInt 64 (a : Int)).toNat = a := by
  rw [BitVec.ofInt_natCast, BitVec.toNat_ofNat]
  exact Nat.mod_eq_of_lt (Nat.lt_trans h (by decide))
theorem wrap_nat (x : Nat) (h : x < 2 ^ 63) : IntKind.i64.wrap (x : Int) = (x : Int) := by
  rw [IntKind.wrap_i64]
  have : x < 9223372036854775808 := h
  omega
theorem or_nat {a b : Nat} (ha : a < 2 ^ 63) (hb : b < 2 ^ 63) : bits .or .i64 (a : Int) (b : Int) = ((a ||| b : Nat) : Int) := by
  have e : bits .or .i64 (a : Int) (b : Int) = IntKind.i64.wrap (((BitVec.ofInt 64 (a : Int)) ||| (BitVec.ofInt 64 (b : Int))).toNat : Int) := rfl
  rw [e, BitVec.toNat_or, nat_i64 a ha, nat_i64 b hb, wrap_nat _ (Nat.or_lt_two_pow ha hb)]
theorem and_one {a : Nat} (ha : a < 2 ^ 63) : bits .and .i64 (a : Int) 1 = ((a % 2 : Nat) : Int) := by
  have e : bits .and .i64 (a : Int) 1 = IntKind.i64.wrap (((BitVec.ofInt 64 (a : Int)) &&& (BitVec.ofInt 64 ((1 : Nat) : Int))).toNat : Int) := rfl
  rw [e, BitVec.toNat_and, nat_i64 a ha, nat_i64 1 (by decide), Nat.and_one_is_mod]
  exact wrap_nat _ (by omega)
/-- 's >> c & 1 == 0' -/
theorem bit_test {s c : Nat} (hs : s < 2 ^ 63) : (bits .and .i64 ((s : Int) / 2 ^ c) 1 == 0) = !s.testBit c := by
  have e : ((s : Int) / 2 ^ c) = ((s / 2 ^ c : Nat) : Int) := by rw [Int.natCast_ediv, Int.natCast_pow]; rfl
  have h : s / 2 ^ c ≤ s := Nat.div_le_self _ _
  rw [e, and_one (Nat.lt_of_le_of_lt h hs), Nat.testBit_eq_decide_div_mod_eq]
  have : s / 2 ^ c % 2 = 0 ∨ s / 2 ^ c % 2 = 1 := by omega
  rcases this with h | h <;> rw [h] <;> rfl
/-- 's | 1 << c' -/
theorem bit_set {s c : Nat} (hs : s < 2 ^ 63) (hc : c < 63) : bits .or .i64 (s : Int) (2 ^ c) = ((s ||| 1 <<< c : Nat) : Int) := by
  have e : ((2 : Int) ^ c) = ((1 <<< c : Nat) : Int) := by rw [Nat.one_shiftLeft, Int.natCast_pow]; rfl
  rw [e, or_nat hs]
  rw [Nat.one_shiftLeft]
  exact Nat.pow_lt_pow_right (by decide) hc
theorem wrap64_pow {c : Nat} (hc : c < 63) : wrap64 (2 ^ c) = 2 ^ c := by
  have e : ((2 : Int) ^ c) = ((2 ^ c : Nat) : Int) := by rw [Int.natCast_pow]; rfl
  have h : 2 ^ c < 2 ^ 63 := Nat.pow_lt_pow_right (by decide) hc
  have h2 : (2 : Nat) ^ 63 = 9223372036854775808 := by decide
  rw [e]
  generalize (2 : Nat) ^ c = x at h
  unfold wrap64
  omega
theorem bit_setw {s c : Nat} (hs : s < 2 ^ 63) (hc : c < 63) : bits .or .i64 (s : Int) (wrap64 (2 ^ c)) = ((s ||| 1 <<< c : Nat) : Int) := by
  rw [wrap64_pow hc, bit_set hs hc]
theorem bit_set_lt {s c n : Nat} (hs : s < 2 ^ n) (hc : c < n) : s ||| 1 <<< c < 2 ^ n := by
  refine Nat.or_lt_two_pow hs ?_
  rw [Nat.one_shiftLeft]
  exact Nat.pow_lt_pow_right (by decide) hc
end Go.Proofs.Ytmembjjgkideeaa

namespace Go.Proofs.Ytmembjjgkideeaa
open Go.RowKit

def addI (s : List Int) (x : Int) : List Int := if hasI x s = true then s else s ++ [x]
def itemsF (l : List Verdict) : List Int := l.foldl (fun s v => addI (addI s v.a) v.b) []
theorem addI_mem {s : List Int} {x y : Int} : y ∈ addI s x ↔ y ∈ s ∨ y = x := by
  unfold addI
  split
  · rename_i h
    have := (hasI_iff x s).1 h
    exact ⟨.inl, fun h => h.elim id fun e => e ▸ this⟩
  · rw [List.mem_append, List.mem_singleton]
theorem addI_nodup {s : List Int} {x : Int} (h : s.Nodup) : (addI s x).Nodup := by
  unfold addI
  split
  · exact h
  · rename_i hn
    refine List.nodup_append.2 ⟨h, by simp, fun a ha b hb e => ?_⟩
    rw [List.mem_singleton] at hb
    subst e; subst hb
    exact hn ((hasI_iff _ _).2 ha)
theorem addI_len (s : List Int) (x : Int) : (addI s x).length ≤ s.length + 1 := by
  unfold addI
  split
  · omega
  · simp
theorem itemsF_step {l : List Verdict} {k : Nat} (h : k < l.length) : itemsF (l.take (k + 1)) = addI (addI (itemsF (l.take k)) l[k].a) l[k].b := by
  unfold itemsF
  rw [List.take_succ_eq_append_getElem h, List.foldl_append]
  rfl
theorem itemsF_facts (l : List Verdict) : ∀ k, k ≤ l.length → (itemsF (l.take k)).Nodup ∧ (itemsF (l.take k)).length ≤ 2 * k ∧ (∀ v ∈ l.take k, v.a ∈ itemsF (l.take k) ∧ v.b ∈ itemsF (l.take k)) ∧ ∀ x ∈ itemsF (l.take k), ∃ v ∈ l.take k, x = v.a ∨ x = v.b := fun k => by
  induction k with
  | zero => exact fun _ => ⟨List.nodup_nil, Nat.le_refl _, fun v hv => (by rw [List.take_zero] at hv; cases hv), fun x hx => (by rw [List.take_zero] at hx; cases hx)⟩
  | succ k ih =>
    intro hk
    obtain ⟨h1, h2, h3, h4⟩ := ih (by omega)
    rw [itemsF_step hk]
    have a1 := addI_len (itemsF (l.take k)) l[k].a
    have a2 := addI_len (addI (itemsF (l.take k)) l[k].a) l[k].b
    refine ⟨addI_nodup (addI_nodup h1), by omega, fun v hv => ?_, fun x hx => ?_⟩
    · rw [List.take_succ_eq_append_getElem hk] at hv
      rw [addI_mem, addI_mem, addI_mem, addI_mem]
      rcases List.mem_append.1 hv with hv | hv
      · exact ⟨.inl (.inl (h3 v hv).1), .inl (.inl (h3 v hv).2)⟩
      · rw [List.mem_singleton] at hv; subst hv; exact ⟨.inl (.inr rfl), .inr rfl⟩
    · rw [List.take_succ_eq_append_getElem hk]
      rcases addI_mem.1 hx with hx | hx
      · rcases addI_mem.1 hx with hx | hx
        · obtain ⟨v, hv, e⟩ := h4 x hx
          exact ⟨v, List.mem_append_left _ hv, e⟩
        · exact ⟨l[k], List.mem_append_right _ (List.mem_singleton_self _), .inl hx⟩
      · exact ⟨l[k], List.mem_append_right _ (List.mem_singleton_self _), .inr hx⟩
def itemsS (l : List Verdict) : List Int := sortK (fun x : Int => x) (itemsF l)
theorem itemsS_facts (l : List Verdict) : (itemsS l).Pairwise (· < ·) ∧ (itemsS l).length ≤ 2 * l.length ∧ (∀ v ∈ l, v.a ∈ itemsS l ∧ v.b ∈ itemsS l) ∧ ∀ x ∈ itemsS l, ∃ v ∈ l, x = v.a ∨ x = v.b := by
  obtain ⟨h1, h2, h3, h4⟩ := itemsF_facts l l.length (Nat.le_refl _)
  rw [List.take_length] at h1 h2 h3 h4
  have hp := sortK_perm (fun x : Int => x) (itemsF l)
  have hs := sortK_sorted (fun x : Int => x) (itemsF l)
  have hn : (itemsS l).Nodup := hp.nodup_iff.2 h1
  refine ⟨?_, by unfold itemsS; rw [hp.length_eq]; exact h2, fun v hv => ⟨hp.mem_iff.2 (h3 v hv).1, hp.mem_iff.2 (h3 v hv).2⟩, fun x hx => h4 x (hp.mem_iff.1 hx)⟩
  rw [List.pairwise_iff_getElem]
  intro i j hi hj hij
  have a := List.pairwise_iff_getElem.1 hs i j hi hj hij
  have b := List.pairwise_iff_getElem.1 hn i j hi hj hij
  have a : (itemsS l)[i] ≤ (itemsS l)[j] := a
  have b : (itemsS l)[i] ≠ (itemsS l)[j] := b
  omega
/-- two neighbours exchanged -/
theorem swap_two (p t : List Int) (y v : Int) : ((p ++ y :: v :: t).set (p.length + 1) y).set p.length v = p ++ v :: y :: t := by
  rw [List.set_append_right _ _ (by omega), List.set_append_right _ _ (Nat.le_refl _), Nat.sub_self, show p.length + 1 - p.length = 1 by omega]
  rfl
theorem splitFacts2 (xs : List Verdict) : Holds8 (itemsS (curV xs)) ((splitV xs).1 ++ (splitV xs).2) ∧ ((splitV xs).1 ++ (splitV xs).2).length = (curV xs).length ∧ (curV xs).length ≤ 8 := by
  obtain ⟨_, _, hp, hok⟩ := split_facts xs
  obtain ⟨_, _, h3, _⟩ := itemsS_facts (curV xs)
  exact ⟨fun v hv => ⟨hok v hv, (h3 v (hp.mem_iff.1 hv)).1, (h3 v (hp.mem_iff.1 hv)).2⟩, hp.length_eq, (curV_facts xs).2.2⟩
theorem law_kept {xs : List Verdict} (h1 : 1 ≤ (itemsS (curV xs)).length) (h8 : (itemsS (curV xs)).length ≤ 8) : (vcons (itemsS (curV xs)) (splitV xs).1).length = (splitV xs).1.length ∧ consistB (itemsS (curV xs)).length (vcons (itemsS (curV xs)) (splitV xs).1) = true := by
  obtain ⟨hh, hl, h9⟩ := splitFacts2 xs
  have hs := (itemsS_facts (curV xs)).1
  have hk : Holds8 (itemsS (curV xs)) (splitV xs).1 := fun v hv => hh v (List.mem_append_left _ hv)
  rw [List.length_append] at hl
  refine ⟨by rw [vcons_map hs hk, List.length_map], ?_⟩
  rw [vcons_consist hs hk h1 h8 (by omega), (split_facts xs).1]
  rfl
theorem law_refused {xs : List Verdict} (h1 : 1 ≤ (itemsS (curV xs)).length) (h8 : (itemsS (curV xs)).length ≤ 8) {v : Verdict} (hv : v ∈ (splitV xs).2) : consistB (itemsS (curV xs)).length (vcons (itemsS (curV xs)) (splitV xs).1 ++ vcons (itemsS (curV xs)) [v]) = false := by
  obtain ⟨hh, hl, h9⟩ := splitFacts2 xs
  have hs := (itemsS_facts (curV xs)).1
  have hk : Holds8 (itemsS (curV xs)) ((splitV xs).1 ++ [v]) := fun x hx => by
    rcases List.mem_append.1 hx with hx | hx
    · exact hh x (List.mem_append_left _ hx)
    · rw [List.mem_singleton] at hx; subst hx; exact hh x (List.mem_append_right _ hv)
  have e : vcons (itemsS (curV xs)) (splitV xs).1 ++ vcons (itemsS (curV xs)) [v] = vcons (itemsS (curV xs)) ((splitV xs).1 ++ [v]) := by unfold vcons; rw [List.flatMap_append]
  rw [List.length_append] at hl
  rw [e, vcons_consist hs hk h1 h8 (by rw [List.length_append, List.length_singleton]; omega), ((split_facts xs).2.1 v hv).1]
  rfl
end Go.Proofs.Ytmembjjgkideeaa

namespace Go.Proofs.Ytmembjjgkideeaa
open Go.RowKit

set_option maxHeartbeats 400000 in
theorem laws_has (v : Value) (xs : List Int) (x : Int) (w : World) (h : Sl intR w v xs) :
    Calls Try.prog 10 #[v, .int .i64 x] w fun e w2 => e = .returned (.bool (hasI x xs)) ∧ w = w2 := by
  obtain ⟨A, cap, rfl, hm⟩ := h.form
  go_enter Try.func10, Try.ntmps10
  go_wp2
  go_loop [5] (fun i => ∃ k : Nat, k ≤ xs.length ∧ i = .int .i64 k ∧ ∀ y ∈ xs.take k, (y == x) = false) (fun i => xs.length - (intOf i).toNat)
  case atStart => exact ⟨0, Nat.zero_le _, rfl, by simp⟩
  case round =>
    obtain ⟨k, hk, rfl, hz⟩ := hrel
    have HZ := hid hz
    clear hz
    by_cases hlt : k < xs.length
    · obtain ⟨b, off, rfl, hb, hc⟩ := h.int hlt
      by_cases h0 : xs[k] = x
      · have h1 : (xs[k] == x) = true := by simp [h0]
        have HA := hid (show hasI x xs = true from (hasI_iff x xs).2 (by rw [← h0]; exact List.getElem_mem hlt))
        clear h0
        go_wp2
        go_ret
        exact ⟨ret_bool HA.out.symm, rfl⟩
      · have h1 : (xs[k] == x) = false := by rw [beq_eq_false_iff_ne]; exact h0
        have H0 := hid h1
        clear h0
        go_wp2
        go_round
        case rel => exact ⟨k + 1, by omega, by go_num, take_snoc_all _ xs k hlt HZ.out H0.out⟩
        case measure => simp [intOf]; omega
    · have HA := hid (show hasI x xs = false from by
        cases hb : hasI x xs with
        | false => rfl
        | true =>
          have hm := (hasI_iff x xs).1 hb
          have hz := HZ.out
          rw [List.take_of_length_le (by omega)] at hz
          have := hz x hm
          simp at this)
      go_wp2
      go_ret
      exact ⟨ret_bool HA.out.symm, rfl⟩
end Go.Proofs.Ytmembjjgkideeaa

namespace Go.Proofs.Ytmembjjgkideeaa
open Go.RowKit

set_option maxHeartbeats 400000 in
theorem impl_isItem (x n : Int) (w : World) (h1 : -9223372036854775807 ≤ n) (h2 : n ≤ 9223372036854775807) :
    Calls Try.prog 59 #[.int .i64 x, .int .i64 n] w fun e w2 => e = .returned (.bool (inB x 0 (n - 1))) ∧ w = w2 := by
  have HW := hid (fun (W : World) => impl_within x 0 (n - 1) W)
  go_enter Try.func59, Try.ntmps59
  go_wp2_with fail
  refine (HW.out _).mono ?_
  rintro e w2 ⟨rfl, rfl⟩
  go_wp2
  go_ret
  exact ⟨rfl, rfl⟩

set_option maxHeartbeats 400000 in
set_option maxRecDepth 20000 in
theorem slices_IndexFunc_kA (u : Value) (p : Constraint → Bool) (v : Value) (xs : List Constraint) (w : World) (h : Sl constraintR w v xs)
    (hf : ∀ W, Ext w W → ∀ c ∈ xs, Calls Try.prog 58 #[.agg #[.int .i64 c.a, .int .i64 c.b, .bool c.same], u] W fun e w2 => e = .returned (.bool (p c)) ∧ Ext W w2) :
    Calls Try.prog 61 #[v, .func (.func 58) #[] #[u]] w fun e w2 =>
      e = .returned (.int .i64 (idxF p 0 xs)) ∧ Ext w w2 := by
  obtain ⟨A, cap, rfl, hm⟩ := h.form
  have HF := hid hf
  clear hf
  go_enter Try.func61, Try.ntmps61
  go_wp2
  go_loopw [8] (fun i wr => ∃ k : Nat, k ≤ xs.length ∧ i = .int .i64 k ∧ (∀ y ∈ xs.take k, p y = false) ∧ Ext w wr) (fun i _ => xs.length - (intOf i).toNat)
  case atStart => exact ⟨0, Nat.zero_le _, rfl, by simp, Ext.refl _⟩
  case round =>
    obtain ⟨k, hk, rfl, hz, hx⟩ := hrel
    have HZ := hid hz
    clear hz
    by_cases hlt : k < xs.length
    · obtain ⟨b, off, eA, hokk, c0, c1, c2⟩ := (h.mono hx).constraint hlt
      subst eA
      obtain ⟨r, hr⟩ : ∃ r, r = p xs[k] := ⟨_, rfl⟩
      have HC := hid (show Calls Try.prog 58 #[.agg #[.int .i64 xs[k].a, .int .i64 xs[k].b, .bool xs[k].same], u] wr fun e w2 => e = .returned (.bool r) ∧ Ext wr w2 from by rw [hr]; exact HF.out wr hx xs[k] (List.getElem_mem hlt))
      have HR := hid hr
      clear hr hokk
      cases r with
      | true =>
        go_wp2_with (go_at_call 58; refine (HC.out).mono ?_; rintro e w2 ⟨rfl, x2⟩)
        go_ret
        exact ⟨ret_int (idxF_at p xs k hlt HZ.out HR.out.symm).symm, hx.trans x2⟩
      | false =>
        go_wp2_with (go_at_call 58; refine (HC.out).mono ?_; rintro e w2 ⟨rfl, x2⟩)
        go_roundw
        case rel => exact ⟨k + 1, by omega, by go_num, take_snoc_all _ xs k hlt HZ.out HR.out.symm, hx.trans x2⟩
        case measure => simp [intOf]; omega
    · go_wp2
      go_ret
      exact ⟨ret_int (idxF_all p xs k hlt HZ.out).symm, hx⟩
theorem slices_ContainsFunc_kA (u : Value) (p : Constraint → Bool) (v : Value) (xs : List Constraint) (w : World) (h : Sl constraintR w v xs)
    (hf : ∀ W, Ext w W → ∀ c ∈ xs, Calls Try.prog 58 #[.agg #[.int .i64 c.a, .int .i64 c.b, .bool c.same], u] W fun e w2 => e = .returned (.bool (p c)) ∧ Ext W w2) :
    Calls Try.prog 57 #[v, .func (.func 58) #[] #[u]] w fun e w2 =>
      e = .returned (.bool (xs.any p)) ∧ Ext w w2 := by
  have HI := hid (slices_IndexFunc_kA u p v xs w h hf)
  have HA := hid (idxF_any p xs 0)
  clear h hf
  go_enter Try.func57, Try.ntmps57
  go_wp2_with fail
  refine (HI.out).mono ?_
  rintro e w2 ⟨rfl, x2⟩
  go_wp2
  go_ret
  exact ⟨ret_bool HA.out, x2⟩


set_option maxHeartbeats 400000 in
set_option maxRecDepth 20000 in
theorem impl_AreCon1 (c : Constraint) (g : Nat) (n : Int) (w : World) (hc : w.cell? ⟨g, 0, none⟩ = some (.int .i64 n)) (hn : 1 ≤ n ∧ n ≤ 8) :
    Calls Try.prog 58 #[.agg #[.int .i64 c.a, .int .i64 c.b, .bool c.same], .pointer (some ⟨g, 0, none⟩)] w fun e w2 => e = .returned (.bool (!conOk n c)) ∧ Ext w w2 := by
  have HA := hid (fun (W : World) => impl_isItem c.a n W (by omega) (by omega))
  have HB := hid (fun (W : World) => impl_isItem c.b n W (by omega) (by omega))
  have HO := hid (show conOk n c = (inB c.a 0 (n - 1) && inB c.b 0 (n - 1) && decide (c.a < c.b)) from by
    unfold conOk inB
    rw [Bool.eq_iff_iff]
    simp only [Bool.and_eq_true, decide_eq_true_eq]
    omega)
  have hx : Ext w (w.alloc (.cells #[.int .i64 c.a, .int .i64 c.b, .bool c.same] 56)) := (Ext.refl _).alloc _
  have c1 := hx.cell hc
  rw [HO.out]
  obtain ⟨p, hp⟩ : ∃ p, p = inB c.a 0 (n - 1) := ⟨_, rfl⟩
  obtain ⟨q, hq⟩ : ∃ q, q = inB c.b 0 (n - 1) := ⟨_, rfl⟩
  rw [← hp] at HA ⊢
  rw [← hq] at HB ⊢
  clear hp hq HO hc
  cases p with
  | false =>
    go_enter Try.func58, Try.ntmps58
    go_wp2_with fail
    refine (HA.out _).mono ?_
    rintro e w2 ⟨rfl, rfl⟩
    go_wp2
    go_ret
    exact ⟨rfl, hx⟩
  | true =>
    cases q with
    | false =>
      go_enter Try.func58, Try.ntmps58
      go_wp2_with fail
      refine (HA.out _).mono ?_
      rintro e w2 ⟨rfl, rfl⟩
      go_wp2_with fail
      refine (HB.out _).mono ?_
      rintro e w2 ⟨rfl, rfl⟩
      go_wp2
      go_ret
      exact ⟨rfl, hx⟩
    | true =>
      by_cases hab : c.a < c.b
      · have hd : decide (c.a < c.b) = true := by simp [hab]
        have hd2 : decide (c.b ≤ c.a) = false := by simp; omega
        rw [hd]
        clear hab
        go_enter Try.func58, Try.ntmps58
        go_wp2_with fail
        refine (HA.out _).mono ?_
        rintro e w2 ⟨rfl, rfl⟩
        go_wp2_with fail
        refine (HB.out _).mono ?_
        rintro e w2 ⟨rfl, rfl⟩
        go_wp2
        go_ret
        exact ⟨rfl, hx⟩
      · have hd : decide (c.a < c.b) = false := by simp [hab]
        have hd2 : decide (c.b ≤ c.a) = true := by simp; omega
        rw [hd]
        clear hab
        go_enter Try.func58, Try.ntmps58
        go_wp2_with fail
        refine (HA.out _).mono ?_
        rintro e w2 ⟨rfl, rfl⟩
        go_wp2_with fail
        refine (HB.out _).mono ?_
        rintro e w2 ⟨rfl, rfl⟩
        go_wp2
        go_ret
        exact ⟨rfl, hx⟩

set_option maxHeartbeats 400000 in
set_option maxRecDepth 20000 in
theorem impl_AreConstraints (n : Int) (v : Value) (l : List Constraint) (w : World) (h : Sl constraintR w v l) :
    Calls Try.prog 35 #[.int .i64 n, v] w fun e w2 => e = .returned (.bool (areConB n l)) ∧ Ext w w2 := by
  obtain ⟨A, cap, rfl, hm⟩ := h.form
  have hx : Ext w (w.alloc (.cells #[.int .i64 n] 3)) := (Ext.refl _).alloc _
  have HW := hid (fun (W : World) => impl_within n 1 8 W)
  by_cases hn : 1 ≤ n ∧ n ≤ 8
  · have hin : inB n 1 8 = true := by unfold inB; rw [decide_eq_true_eq]; exact hn
    rw [hin] at HW
    by_cases hl : l.length ≤ 10
    · have HE := hid (show areConB n l = !(l.any fun c => !conOk n c) from by
        unfold areConB
        rw [decide_eq_true hn.1, decide_eq_true hn.2, decide_eq_true hl, Bool.true_and, Bool.true_and, Bool.true_and, List.not_any_eq_all_not]
        simp)
      have HC := hid (slices_ContainsFunc_kA (.pointer (some ⟨w.heap.size, 0, none⟩)) (fun c => !conOk n c) _ l _ (h.mono hx) fun W y c _ => impl_AreCon1 c w.heap.size n W (y.box.1 0) hn)
      clear hn hin h
      go_enter Try.func35, Try.ntmps35
      go_wp2_with fail
      refine (HW.out _).mono ?_
      rintro e w2 ⟨rfl, rfl⟩
      go_wp2_with fail
      refine (HC.out).mono ?_
      rintro e w2 ⟨rfl, x2⟩
      go_wp2
      go_ret
      exact ⟨ret_bool HE.out.symm, hx.trans x2⟩
    · have HE := hid (show areConB n l = false from by
        unfold areConB
        rw [decide_eq_false hl]; simp)
      have hl2 : (10 : Int) < (l.length : Int) := by omega
      clear hn hin h hl
      go_enter Try.func35, Try.ntmps35
      go_wp2_with fail
      refine (HW.out _).mono ?_
      rintro e w2 ⟨rfl, rfl⟩
      go_wp2
      go_ret
      exact ⟨ret_bool HE.out.symm, hx⟩
  · have hin : inB n 1 8 = false := by unfold inB; rw [decide_eq_false_iff_not]; exact hn
    rw [hin] at HW
    have HE := hid (show areConB n l = false from by
      cases hb : areConB n l with
      | false => rfl
      | true => have := areCon_iff.1 hb; omega)
    clear hn hin h
    go_enter Try.func35, Try.ntmps35
    go_wp2_with fail
    refine (HW.out _).mono ?_
    rintro e w2 ⟨rfl, rfl⟩
    go_wp2
    go_ret
    exact ⟨ret_bool HE.out.symm, hx⟩
end Go.Proofs.Ytmembjjgkideeaa

namespace Go.Proofs.Ytmembjjgkideeaa
open Go.RowKit

def ent (m : List (List Int)) (i k : Nat) : Int := (m.getD i []).getD k 0
structure WM (m : List (List Int)) : Prop where
  n1 : 1 ≤ m.length
  n8 : m.length ≤ 8
  row : ∀ i, i < m.length → (m.getD i []).length = m.length
  bd : ∀ i k, i < m.length → k < m.length → -1000 ≤ ent m i k ∧ ent m i k ≤ 1000
  sym : ∀ i k, i < m.length → k < m.length → ent m i k = ent m k i
  diag : ∀ i, i < m.length → ent m i i = 0
noncomputable def wmB (m : List (List Int)) : Bool := @decide (WM m) (Classical.propDecidable _)
theorem wmB_iff {m : List (List Int)} : wmB m = true ↔ WM m := by unfold wmB; exact @decide_eq_true_iff _ (Classical.propDecidable _)
theorem wmB_no {m : List (List Int)} (h : ¬ WM m) : wmB m = false := by
  cases hb : wmB m with
  | false => rfl
  | true => exact absurd (wmB_iff.1 hb) h
theorem wmB_yes {m : List (List Int)} (h : WM m) : wmB m = true := wmB_iff.2 h
theorem ent_at {m : List (List Int)} {i k : Nat} (hi : i < m.length) (hk : k < m[i].length) : ent m i k = m[i][k] := by
  unfold ent
  rw [getD_getElem hi, getD_getElem hk]
theorem row_at {m : List (List Int)} {i : Nat} (hi : i < m.length) : m.getD i [] = m[i] := getD_getElem hi
def linkM (m : List (List Int)) (i k : Nat) : Prop := i < m.length ∧ k < m.length ∧ 0 < ent m i k
noncomputable def posC (m : List (List Int)) : List Int := if wmB m then compL m.length (linkM m) else []
theorem linkM_symm {m : List (List Int)} (h : WM m) {i k : Nat} (hl : linkM m i k) : linkM m k i := ⟨hl.2.1, hl.1, by rw [h.sym k i hl.2.1 hl.1]; exact hl.2.2⟩
/-- the first k rows are good, as the program tests them -/
def GoodTo (m : List (List Int)) (k : Nat) : Prop := ∀ i, i < k → (m.getD i []).length = m.length ∧ ent m i i = 0 ∧ ∀ j, j < i → (-1000 ≤ ent m i j ∧ ent m i j ≤ 1000) ∧ ent m j i = ent m i j
theorem GoodTo.wm {m : List (List Int)} (h : GoodTo m m.length) (h1 : 1 ≤ m.length) (h8 : m.length ≤ 8) : WM m where
  n1 := h1
  n8 := h8
  row i hi := (h i hi).1
  bd i k hi hk := by
    by_cases h9 : k < i
    · exact ((h i hi).2.2 k h9).1
    · by_cases h10 : i < k
      · have := (h k hk).2.2 i h10
        rw [this.2]; exact this.1
      · have : i = k := by omega
        subst this
        rw [(h i hi).2.1]; omega
  sym i k hi hk := by
    by_cases h9 : k < i
    · exact ((h i hi).2.2 k h9).2.symm
    · by_cases h10 : i < k
      · exact ((h k hk).2.2 i h10).2
      · have : i = k := by omega
        subst this
        rfl
  diag i hi := (h i hi).2.1
end Go.Proofs.Ytmembjjgkideeaa

namespace Go.Proofs.Ytmembjjgkideeaa
open Go.RowKit

def u8R : Rep Int := ⟨1, fun _ cs x => cs = [.int .u8 x] ∧ 0 ≤ x ∧ x ≤ 255, fun h => by simp [h.1], fun _ h => h⟩
theorem reads_u8 {P : Program} {e : TypeId} (he : P.underlying e = some (.int .u8)) (hc : P.cellsOf e = 1) : Reads P e u8R :=
  ⟨hc, fun h => by
    obtain ⟨n, rfl, _, hw⟩ := DataW.trod_int he h
    exact ⟨n, rfl, by simpa [Lit.wf, IntKind.min, IntKind.max, IntKind.signed, IntKind.bits] using hw⟩⟩
theorem Sl.u8 {w : World} {A : Option Addr} {n cap : Nat} {xs : List Int} (h : Sl u8R w (.slice A n cap) xs) {i : Nat} (hi : i < xs.length) :
    ∃ b off, A = some ⟨b, off, none⟩ ∧ (0 ≤ xs[i] ∧ xs[i] ≤ 255) ∧ w.cell? ⟨b, off + i, none⟩ = some (.int .u8 xs[i]) := by
  obtain ⟨b, off, cs, rfl, ⟨rfl, hr⟩, hc⟩ := h.at_ hi
  exact ⟨b, off, rfl, hr, by simpa [u8R] using hc 0 (by simp [u8R])⟩
theorem rU8 : Reads Try.prog 5 u8R := reads_u8 Try.underlying5 (by kernel_rfl)
theorem rBytes : Reads Try.prog 22 (slR u8R) := reads_slice Try.underlying22 (by kernel_rfl) (by decide) rU8

theorem i64_and255 (n : Int) : bits .and .i64 n 255 = n % 256 := by
  have h255 : (BitVec.ofInt 64 255).toNat = 2 ^ 8 - 1 := by decide
  have key : (BitVec.ofInt 64 n &&& BitVec.ofInt 64 255).toNat = (n % ((2 ^ 64 : Nat) : Int)).toNat % 2 ^ 8 := by
    rw [BitVec.toNat_and, BitVec.toNat_ofInt, h255, Nat.and_two_pow_sub_one_eq_mod]
  show IntKind.i64.wrap ((BitVec.ofInt 64 n &&& BitVec.ofInt 64 255).toNat : Nat) = n % 256
  rw [key, IntKind.wrap_i64]
  omega
theorem i64_and30 (n : Int) : bits .and .i64 n 1073741823 = n % 1073741824 := by
  have h255 : (BitVec.ofInt 64 1073741823).toNat = 2 ^ 30 - 1 := by decide
  have key : (BitVec.ofInt 64 n &&& BitVec.ofInt 64 1073741823).toNat = (n % ((2 ^ 64 : Nat) : Int)).toNat % 2 ^ 30 := by
    rw [BitVec.toNat_and, BitVec.toNat_ofInt, h255, Nat.and_two_pow_sub_one_eq_mod]
  show IntKind.i64.wrap ((BitVec.ofInt 64 n &&& BitVec.ofInt 64 1073741823).toNat : Nat) = n % 1073741824
  rw [key, IntKind.wrap_i64]
  omega

/-- the cursor lies in block g; its bytes lie in w0 -/
def Cur (w0 w : World) (g : Nat) : Prop := ∃ (A : Option Addr) (cap : Nat) (bs : List Int) (p : Nat) (h : Int), Sl u8R w0 (.slice A bs.length cap) bs ∧ Ext w0 w ∧ w0.heap.size ≤ g ∧
  Blk w g 64 [.slice A bs.length cap, .int .i64 p, .int .i64 h] ∧ p ≤ bs.length ∧ I64 h
/-- all old blocks stand but g -/
def Kept (g : Nat) (w w2 : World) : Prop := w.heap.size ≤ w2.heap.size ∧ ∀ b, b < w.heap.size → b ≠ g → w2.heap[b]? = w.heap[b]?
theorem Kept.refl (g : Nat) (w : World) : Kept g w w := ⟨Nat.le_refl _, fun _ _ _ => rfl⟩
theorem Kept.trans {g : Nat} {a b c : World} (h : Kept g a b) (k : Kept g b c) : Kept g a c := ⟨Nat.le_trans h.1 k.1, fun i hi hg => (k.2 i (Nat.lt_of_lt_of_le hi h.1) hg).trans (h.2 i hi hg)⟩
theorem Ext.kept {g : Nat} {a b : World} (h : Ext a b) : Kept g a b := ⟨h.size, fun _ hi _ => h.block hi⟩
theorem Kept.set (g k : Nat) (u : Value) (w : World) : Kept g w (w.setCell ⟨g, k, none⟩ u) := ⟨by simp, fun b _ hb => keep_setCell hb⟩
theorem Cur.keep {w0 w w2 : World} {g : Nat} (h : Cur w0 w g) (x : Ext w0 w2) (k : w2.heap[g]? = w.heap[g]?) : Cur w0 w2 g :=
  let ⟨A, cap, bs, p, hh, h1, _, h3, h4, h5⟩ := h; ⟨A, cap, bs, p, hh, h1, x, h3, h4.keep k, h5⟩
theorem Cur.ext {w0 w w2 : World} {g : Nat} (h : Cur w0 w g) (x : Ext w w2) : Cur w0 w2 g := by
  obtain ⟨A, cap, bs, p, hh, h1, h2, h3, h4, h5⟩ := h
  exact ⟨A, cap, bs, p, hh, h1, h2.trans x, h3, h4.ext x, h5⟩

set_option maxHeartbeats 400000 in
set_option maxRecDepth 20000 in
theorem spec_l1Byte (w0 w : World) (g : Nat) (hc : Cur w0 w g) :
    Calls Try.prog 84 #[.pointer (some ⟨g, 0, none⟩)] w fun e w2 => ∃ x, e = .returned (.int .i64 x) ∧ (0 ≤ x ∧ x ≤ 255) ∧ Cur w0 w2 g ∧ Kept g w w2 := by
  obtain ⟨A, cap, bs, p, h, hb, hx, hg, hB, hp, hI⟩ := hc
  have hm := hb.cap_
  have hI' := hI.out
  obtain ⟨c0, f0⟩ := hB.cells
  have c2 : w.cell? ⟨g, 2, none⟩ = some (.int .i64 h) := c0 2
  have f2 : w.frozen? ⟨g, 2, none⟩ = false := f0 2
  clear c0 f0
  obtain ⟨u, hu⟩ : ∃ u, u = wrap64 (wrap64 (h * 6364136223846793005) + 1442695040888963407) := ⟨_, rfl⟩
  have HU := hid hu
  have S1 : Blk (w.setCell ⟨g, 2, none⟩ (.int .i64 u)) g 64 [.slice A bs.length cap, .int .i64 p, .int .i64 u] := Blk.store (done := [.slice A bs.length cap, .int .i64 p]) (z := .int .i64 h) (rest := []) (k := 2) hB rfl (.int .i64 u)
  obtain ⟨W1, hW⟩ : ∃ W1, W1 = w.setCell ⟨g, 2, none⟩ (.int .i64 u) := ⟨_, rfl⟩
  have hu64 : I64 u := by rw [hu]; unfold I64 wrap64; omega
  have hx1 : Ext w0 W1 := by rw [hW]; exact hx.setCell (by simpa using hg) _
  have hk1 : Kept g w W1 := by rw [hW]; exact Kept.set _ _ _ _
  rw [← hW] at S1
  have HW := hid hW
  clear hu hW
  obtain ⟨c0, f0⟩ := S1.cells
  have d0 : ∀ z : ExtOf W1, z.1.cell? ⟨g, 0, none⟩ = some (.slice A bs.length cap) := fun z => z.2.cell (c0 0)
  have d1 : ∀ z : ExtOf W1, z.1.cell? ⟨g, 1, none⟩ = some (.int .i64 p) := fun z => z.2.cell (c0 1)
  have d2 : ∀ z : ExtOf W1, z.1.cell? ⟨g, 2, none⟩ = some (.int .i64 u) := fun z => z.2.cell (c0 2)
  clear c0 f0
  by_cases hlt : p < bs.length
  · obtain ⟨b, off, rfl, hbd, hcb⟩ := hb.u8 hlt
    have d3 : ∀ z : ExtOf W1, z.1.cell? ⟨b, off + p, none⟩ = some (.int .u8 bs[p]) := fun z => (hx1.trans z.2).cell hcb
    go_enter Try.func84, Try.ntmps84
    go_wp2_with fail
    rw [← HU.out, ← HW.out]
    refine wp_region_ext (by kernel_rfl) (by kernel_rfl) ?_
    repeat (go_big_quiet_step ((fail)))
    refine wpQuiet_nil ?_
    rintro w4 ⟨⟨_, x4⟩, rfl⟩
    have e0 : ∀ z : ExtOf w4, z.1.cell? ⟨g, 0, none⟩ = some (.slice (some ⟨b, off, none⟩) bs.length cap) := fun z => d0 ⟨_, x4.trans z.2⟩
    have e1 : ∀ z : ExtOf w4, z.1.cell? ⟨g, 1, none⟩ = some (.int .i64 p) := fun z => d1 ⟨_, x4.trans z.2⟩
    go_wp2_with fail
    refine wp_region_ext (by kernel_rfl) (by kernel_rfl) ?_
    repeat (go_big_quiet_step ((fail)))
    refine wpQuiet_nil ?_
    rintro w5 ⟨⟨_, x5⟩, rfl⟩
    have k0 : ∀ z : ExtOf w5, z.1.cell? ⟨g, 0, none⟩ = some (.slice (some ⟨b, off, none⟩) bs.length cap) := fun z => e0 ⟨_, x5.trans z.2⟩
    have k1 : ∀ z : ExtOf w5, z.1.cell? ⟨g, 1, none⟩ = some (.int .i64 p) := fun z => e1 ⟨_, x5.trans z.2⟩
    have k3 : ∀ z : ExtOf w5, z.1.cell? ⟨b, off + p, none⟩ = some (.int .u8 bs[p]) := fun z => d3 ⟨_, (x4.trans x5).trans z.2⟩
    go_wp2_with fail
    refine wp_region_ext (by kernel_rfl) (by kernel_rfl) ?_
    repeat (go_big_quiet_step ((fail)))
    refine wpQuiet_nil ?_
    rintro w6 ⟨⟨_, x6⟩, rfl⟩
    have S6 := S1.ext ((x4.trans x5).trans x6)
    have m1 := (S6.cells).1 1
    have n1 := (S6.cells).2 1
    have m1 : w6.cell? ⟨g, 1, none⟩ = some (.int .i64 p) := m1
    go_wp2
    go_ret
    refine ⟨_, rfl, ?_, ⟨_, _, bs, p + 1, u, hb, ((hx1.trans ((x4.trans x5).trans x6)).setCell (by simpa using hg) _), hg, ?_, hlt, hu64⟩, (hk1.trans ((x4.trans x5).trans x6).kept).trans (Kept.set _ _ _ _)⟩
    · rw [i64_and255]; omega
    · have := Blk.store (done := [.slice (some ⟨b, off, none⟩) bs.length cap]) (z := .int .i64 p) (rest := [.int .i64 u]) (k := 1) S6 rfl (.int .i64 ((p : Int) + 1))
      exact this
  · go_enter Try.func84, Try.ntmps84
    go_wp2_with fail
    rw [← HU.out, ← HW.out]
    refine wp_region_ext (by kernel_rfl) (by kernel_rfl) ?_
    repeat (go_big_quiet_step ((fail)))
    refine wpQuiet_nil ?_
    rintro w4 ⟨⟨_, x4⟩, rfl⟩
    have e0 : ∀ z : ExtOf w4, z.1.cell? ⟨g, 0, none⟩ = some (.slice A bs.length cap) := fun z => d0 ⟨_, x4.trans z.2⟩
    have e1 : ∀ z : ExtOf w4, z.1.cell? ⟨g, 1, none⟩ = some (.int .i64 p) := fun z => d1 ⟨_, x4.trans z.2⟩
    go_wp2_with fail
    refine wp_region_ext (by kernel_rfl) (by kernel_rfl) ?_
    repeat (go_big_quiet_step ((fail)))
    refine wpQuiet_nil ?_
    rintro w5 ⟨⟨_, x5⟩, rfl⟩
    go_wp2
    go_ret
    refine ⟨_, rfl, ?_, ⟨_, _, bs, p, u, hb, hx1.trans (x4.trans x5), hg, S1.ext (x4.trans x5), hp, hu64⟩, hk1.trans (x4.trans x5).kept⟩
    rw [i64_and255]; omega

set_option maxHeartbeats 400000 in
theorem spec_l1Below (w0 w : World) (g : Nat) (n : Int) (hn : 1 ≤ n ∧ n ≤ 256) (hc : Cur w0 w g) :
    Calls Try.prog 63 #[.pointer (some ⟨g, 0, none⟩), .int .i64 n] w fun e w2 => ∃ x, e = .returned (.int .i64 x) ∧ (0 ≤ x ∧ x < n) ∧ Cur w0 w2 g ∧ Kept g w w2 := by
  have hz : ¬ n = 0 := by omega
  go_enter Try.func63, Try.ntmps63
  go_wp2_with fail
  refine (spec_l1Byte w0 w g hc).mono ?_
  rintro e w2 ⟨x, rfl, hx, hc2, hk⟩
  go_wp2
  go_ret
  refine ⟨_, rfl, ?_, hc2, hk⟩
  first | exact ⟨Int.tmod_nonneg _ hx.1, Int.tmod_lt_of_pos _ (by omega)⟩ | exact ⟨Int.emod_nonneg _ (by omega), Int.emod_lt_of_pos _ (by omega)⟩

set_option maxHeartbeats 400000 in
theorem spec_l1Once (w0 w : World) (g : Nat) (n : Int) (hn : 1 ≤ n ∧ n ≤ 256) (hc : Cur w0 w g) :
    Calls Try.prog 40 #[.pointer (some ⟨g, 0, none⟩), .int .i64 n] w fun e w2 => ∃ x, e = .returned (.bool x) ∧ Cur w0 w2 g ∧ Kept g w w2 := by
  go_enter Try.func40, Try.ntmps40
  go_wp2_with fail
  refine (spec_l1Below w0 w g n hn hc).mono ?_
  rintro e w2 ⟨x, rfl, hx, hc2, hk⟩
  go_wp2
  go_ret
  exact ⟨_, rfl, hc2, hk⟩
end Go.Proofs.Ytmembjjgkideeaa

namespace Go.Proofs.Ytmembjjgkideeaa
open Go.RowKit

def setE (m : List (List Int)) (i k : Nat) (x : Int) : List (List Int) := m.set i ((m.getD i []).set k x)
def Sq (n : Nat) (m : List (List Int)) : Prop := m.length = n ∧ ∀ i, i < n → (m.getD i []).length = n
theorem getD_setL (m : List (List Int)) (i j : Nat) (x : List Int) (h : i < m.length) : (m.set i x).getD j [] = if j = i then x else m.getD j [] := getD_set m i j x h
theorem Sq.set {n : Nat} {m : List (List Int)} (h : Sq n m) {i k : Nat} (hi : i < n) (x : Int) : Sq n (setE m i k x) := by
  refine ⟨by unfold setE; rw [List.length_set]; exact h.1, fun a ha => ?_⟩
  unfold setE
  rw [getD_setL _ _ _ _ (by rw [h.1]; exact hi)]
  split
  · rw [List.length_set]; exact h.2 i hi
  · exact h.2 a ha
theorem ent_set {n : Nat} {m : List (List Int)} (h : Sq n m) {i k : Nat} (hi : i < n) (hk : k < n) (x : Int) (a b : Nat) : ent (setE m i k x) a b = if a = i ∧ b = k then x else ent m a b := by
  unfold ent setE
  rw [getD_setL _ _ _ _ (by rw [h.1]; exact hi)]
  by_cases ha : a = i
  · subst ha
    rw [if_pos rfl, getD_set _ _ _ _ (by rw [h.2 a hi]; exact hk)]
    by_cases hb : b = k
    · rw [if_pos hb, if_pos ⟨rfl, hb⟩]
    · rw [if_neg hb, if_neg fun e => hb e.2]
  · rw [if_neg ha, if_neg fun e => ha e.1]
def sqM (n : Nat) : List (List Int) := List.replicate n (List.replicate n 0)
theorem sqM_sq (n : Nat) : Sq n (sqM n) := by
  refine ⟨List.length_replicate, fun i hi => ?_⟩
  unfold sqM
  rw [getD_getElem (by rw [List.length_replicate]; exact hi), List.getElem_replicate, List.length_replicate]
theorem sqM_ent {n i k : Nat} (hi : i < n) (hk : k < n) : ent (sqM n) i k = 0 := by
  unfold ent sqM
  rw [getD_getElem (a := List.replicate n (List.replicate n 0)) (by rw [List.length_replicate]; exact hi), List.getElem_replicate, getD_getElem (by rw [List.length_replicate]; exact hk), List.getElem_replicate]
def mustSt (m : List (List Int)) (c : Constraint) : List (List Int) := if c.same = true then setE (setE m c.a.toNat c.b.toNat 1) c.b.toNat c.a.toNat 1 else m
def mustM (n : Nat) (l : List Constraint) : List (List Int) := l.foldl mustSt (sqM n)
theorem mustM_ent (n : Nat) : ∀ (q : Nat) (l : List Constraint), l.length = q → (∀ c ∈ l, 0 ≤ c.a ∧ c.a < n ∧ 0 ≤ c.b ∧ c.b < n ∧ c.a < c.b) →
    Sq n (mustM n l) ∧ ∀ i k, i < n → k < n → (ent (mustM n l) i k = 1 ∧ mustR l i k) ∨ (ent (mustM n l) i k = 0 ∧ ¬ mustR l i k)
  | 0, l, h, _ => by
    have : l = [] := List.eq_nil_of_length_eq_zero h
    subst this
    exact ⟨sqM_sq n, fun i k hi hk => .inr ⟨sqM_ent hi hk, fun ⟨c, hc, _⟩ => by cases hc⟩⟩
  | q + 1, l, h, hl => by
    rcases List.eq_nil_or_concat l with rfl | ⟨p, c, rfl⟩
    · simp at h
    · rw [List.concat_eq_append] at h hl ⊢
      obtain ⟨h1, h2⟩ := mustM_ent n q p (by simpa using h) fun x hx => hl x (List.mem_append_left _ hx)
      have hc := hl c (List.mem_append_right _ (List.mem_singleton_self c))
      have hsplit : ∀ i k, mustR (p ++ [c]) i k ↔ mustR p i k ∨ (c.same = true ∧ ((c.a = (i : Int) ∧ c.b = (k : Int)) ∨ (c.a = (k : Int) ∧ c.b = (i : Int)))) := fun i k => by
        constructor
        · rintro ⟨x, hx, hs, he⟩
          rcases List.mem_append.1 hx with hx | hx
          · exact .inl ⟨x, hx, hs, he⟩
          · rw [List.mem_singleton] at hx; subst hx; exact .inr ⟨hs, he⟩
        · rintro (⟨x, hx, hs, he⟩ | ⟨hs, he⟩)
          · exact ⟨x, List.mem_append_left _ hx, hs, he⟩
          · exact ⟨c, List.mem_append_right _ (List.mem_singleton_self c), hs, he⟩
      have e : mustM n (p ++ [c]) = mustSt (mustM n p) c := by unfold mustM; rw [List.foldl_append]; rfl
      rw [e]
      unfold mustSt
      by_cases hs : c.same = true
      · rw [if_pos hs]
        have ha : c.a.toNat < n := by omega
        have hb : c.b.toNat < n := by omega
        have s1 := h1.set (k := c.b.toNat) ha 1
        refine ⟨s1.set hb 1, fun i k hi hk => ?_⟩
        rw [ent_set s1 hb ha, ent_set h1 ha hb, hsplit]
        by_cases e1 : i = c.b.toNat ∧ k = c.a.toNat
        · rw [if_pos e1]
          exact .inl ⟨rfl, .inr ⟨hs, .inr ⟨by omega, by omega⟩⟩⟩
        · rw [if_neg e1]
          by_cases e2 : i = c.a.toNat ∧ k = c.b.toNat
          · rw [if_pos e2]
            exact .inl ⟨rfl, .inr ⟨hs, .inl ⟨by omega, by omega⟩⟩⟩
          · rw [if_neg e2]
            rcases h2 i k hi hk with ⟨h3, h4⟩ | ⟨h3, h4⟩
            · exact .inl ⟨h3, .inl h4⟩
            · refine .inr ⟨h3, ?_⟩
              rintro (h5 | ⟨_, h5⟩)
              · exact h4 h5
              · rcases h5 with h5 | h5
                · exact e2 (by omega)
                · exact e1 (by omega)
      · rw [if_neg hs]
        refine ⟨h1, fun i k hi hk => ?_⟩
        rw [hsplit]
        rcases h2 i k hi hk with ⟨h3, h4⟩ | ⟨h3, h4⟩
        · exact .inl ⟨h3, .inl h4⟩
        · exact .inr ⟨h3, fun h5 => h5.elim h4 fun h5 => hs h5.1⟩
theorem mustM_facts {n : Int} {l : List Constraint} (h : areConB n l = true) : WM (mustM n.toNat l) ∧ (mustM n.toNat l).length = n.toNat ∧ linkM (mustM n.toNat l) = mustR l := by
  obtain ⟨h1, h8, _, h4⟩ := areCon_iff.1 h
  obtain ⟨hs, he⟩ := mustM_ent n.toNat _ l rfl fun c hc => by have := h4 c hc; omega
  have hw : WM (mustM n.toNat l) := by
    refine ⟨by rw [hs.1]; omega, by rw [hs.1]; omega, fun i hi => by rw [hs.1]; exact hs.2 i (by rw [← hs.1]; exact hi), fun i k hi hk => ?_, fun i k hi hk => ?_, fun i hi => ?_⟩
    · rw [hs.1] at hi hk
      rcases he i k hi hk with ⟨h, _⟩ | ⟨h, _⟩ <;> omega
    · rw [hs.1] at hi hk
      rcases he i k hi hk with ⟨h, k1⟩ | ⟨h, k1⟩ <;> rcases he k i hk hi with ⟨h', k2⟩ | ⟨h', k2⟩
      · omega
      · exact absurd (mustR_symm k1) k2
      · exact absurd (mustR_symm k2) k1
      · omega
    · rw [hs.1] at hi
      rcases he i i hi hi with ⟨_, ⟨c, hc, _, h⟩⟩ | ⟨h, _⟩
      · have := h4 c hc
        rcases h with h | h <;> omega
      · exact h
  refine ⟨hw, hs.1, ?_⟩
  funext i k
  apply propext
  unfold linkM
  constructor
  · rintro ⟨hi, hk, h0⟩
    rw [hs.1] at hi hk
    rcases he i k hi hk with ⟨_, k1⟩ | ⟨h, _⟩
    · exact k1
    · omega
  · intro hr
    obtain ⟨hi, hk⟩ := mustR_lt h hr
    rcases he i k hi hk with ⟨h, _⟩ | ⟨_, k1⟩
    · exact ⟨by rw [hs.1]; exact hi, by rw [hs.1]; exact hk, by omega⟩
    · exact absurd hr k1
theorem mustM_pos {n : Int} {l : List Constraint} (h : areConB n l = true) : posC (mustM n.toNat l) = mustL n l := by
  obtain ⟨h1, h2, h3⟩ := mustM_facts h
  unfold posC mustL
  rw [if_pos (wmB_yes h1), if_pos h, h2, h3]
end Go.Proofs.Ytmembjjgkideeaa

namespace Go.Proofs.Ytmembjjgkideeaa
open Go.RowKit

set_option maxHeartbeats 1000000 in
theorem impl_IsWeightMatrix (v : Value) (m : List (List Int)) (w : World) (h : Sl (slR intR) w v m) :
    Calls Try.prog 93 #[v] w fun e w2 => e = .returned (.bool (wmB m)) ∧ w = w2 := by
  obtain ⟨A, cap, rfl, hm⟩ := h.form
  by_cases h18 : 1 ≤ m.length ∧ m.length ≤ 8
  · have hin : inB (m.length : Int) 1 8 = true := by unfold inB; rw [decide_eq_true_eq]; omega
    have HIN := hid (fun (W : World) => impl_within (m.length : Int) 1 8 W)
    rw [hin] at HIN
    have HB := hid h18
    clear h18 hin
    go_enter Try.func93, Try.ntmps93
    go_wp2_with fail
    refine (HIN.out _).mono ?_
    rintro e w2 ⟨rfl, rfl⟩
    go_wp2_with fail
    go_loop [13] (fun i => ∃ k : Nat, k ≤ m.length ∧ i = .int .i64 k ∧ GoodTo m k) (fun i => m.length - (intOf i).toNat)
    case atStart => exact ⟨0, Nat.zero_le _, rfl, fun i hi => absurd hi (Nat.not_lt_zero _)⟩
    case round =>
      obtain ⟨k, hk, rfl, hg⟩ := hrel
      have HG := hid hg
      clear hg
      by_cases hlt : k < m.length
      · obtain ⟨b, off, A2, cap2, eA, hsl, hc⟩ := h.sl hlt
        subst eA
        by_cases hrl : m[k].length = m.length
        · have hrl1 : ((m[k].length : Int) != (m.length : Int)) = false := by simp [hrl]
          have HRL := hid hrl
          have hkr : k < m[k].length := by omega
          obtain ⟨b2, off2, rfl, _, hc2⟩ := hsl.int hkr
          by_cases hd : m[k][k] = 0
          · have hd1 : (m[k][k] != 0) = false := by simp [hd]
            have HD := hid (show ent m k k = 0 by rw [ent_at hlt hkr]; exact hd)
            have hcap := hsl.cap_
            have hkc : k ≤ cap2 := by omega
            have hkc2 : (k : Int) ≤ (cap2 : Int) := by omega
            have hkn : (0 : Int) ≤ (k : Int) := by omega
            clear hd hrl
            go_wp2_with fail
            go_loop [34] (fun i => ∃ j : Nat, j ≤ k ∧ i = .int .i64 j ∧ ∀ q, q < j → (-1000 ≤ ent m k q ∧ ent m k q ≤ 1000) ∧ ent m q k = ent m k q) (fun i => k - (intOf i).toNat)
            case atStart => exact ⟨0, Nat.zero_le _, rfl, fun q hq => absurd hq (Nat.not_lt_zero _)⟩
            case round =>
              obtain ⟨j, hj, rfl, hq⟩ := hrel
              have HQ := hid hq
              clear hq
              by_cases hjk : j < k
              · have hjr : j < m[k].length := by omega
                obtain ⟨b3, off3, e3, _, hc3⟩ := hsl.int hjr
                injection e3 with e3
                injection e3 with e4 e5 _
                subst e4; subst e5
                have hjm : j < m.length := by omega
                obtain ⟨b4, off4, A4, cap4, e4, hsl4, hc4⟩ := h.sl hjm
                injection e4 with e4
                injection e4 with e5 e6 _
                subst e5; subst e6
                have hjl : m[j].length = m.length := by have := (HG.out j hjk).1; rwa [row_at hjm] at this
                have hkj : k < m[j].length := by omega
                obtain ⟨b5, off5, e5, _, hc5⟩ := hsl4.int hkj
                subst e5
                have HE1 := hid (ent_at hlt hjr)
                have HE2 := hid (ent_at hjm hkj)
                have HW := hid (fun (W : World) => impl_within m[k][j] (-1000) 1000 W)
                clear hjl
                by_cases hb : -1000 ≤ m[k][j] ∧ m[k][j] ≤ 1000
                · have hb1 : inB m[k][j] (-1000) 1000 = true := by unfold inB; rw [decide_eq_true_eq]; exact hb
                  rw [hb1] at HW
                  have HBB := hid hb
                  clear hb hb1
                  by_cases he : m[j][k] = m[k][j]
                  · have he1 : (m[j][k] != m[k][j]) = false := by simp [he]
                    have HEE := hid he
                    clear he
                    go_wp2_with (go_at_call 56; refine (HW.out _).mono ?_; rintro e w3 ⟨rfl, rfl⟩)
                    go_round
                    case rel => exact ⟨j + 1, by omega, by go_num, fun q hq => by
                      by_cases e : q = j
                      · subst e; rw [HE1.out, HE2.out]; exact ⟨HBB.out, HEE.out⟩
                      · exact HQ.out q (by omega)⟩
                    case measure => simp [intOf]; omega
                  · have he1 : (m[j][k] != m[k][j]) = true := by simp [he]
                    have HEE := hid (show wmB m = false from wmB_no fun hw => he (by rw [← HE1.out, ← HE2.out]; exact hw.sym j k hjm hlt))
                    clear he
                    go_wp2_with (go_at_call 56; refine (HW.out _).mono ?_; rintro e w3 ⟨rfl, rfl⟩)
                    go_ret
                    exact ⟨ret_bool HEE.out.symm, rfl⟩
                · have hb1 : inB m[k][j] (-1000) 1000 = false := by unfold inB; rw [decide_eq_false_iff_not]; exact hb
                  rw [hb1] at HW
                  have HEE := hid (show wmB m = false from wmB_no fun hw => hb (by rw [← HE1.out]; exact hw.bd k j hlt hjm))
                  clear hb hb1
                  go_wp2_with (go_at_call 56; refine (HW.out _).mono ?_; rintro e w3 ⟨rfl, rfl⟩)
                  go_ret
                  exact ⟨ret_bool HEE.out.symm, rfl⟩
              · have hjk2 : j = k := by omega
                subst hjk2
                go_wp2
                go_round
                case rel => exact ⟨j + 1, by omega, by go_num, fun i hi => by
                  by_cases e : i = j
                  · subst e; rw [row_at hlt]; exact ⟨HRL.out, HD.out, HQ.out⟩
                  · exact HG.out i (by omega)⟩
                case measure => simp [intOf]; omega
          · have hd1 : (m[k][k] != 0) = true := by simp [hd]
            have HEE := hid (show wmB m = false from wmB_no fun hw => hd (by rw [← ent_at hlt hkr]; exact hw.diag k hlt))
            clear hd
            go_wp2
            go_ret
            exact ⟨ret_bool HEE.out.symm, rfl⟩
        · have hrl1 : ((m[k].length : Int) != (m.length : Int)) = true := by simp; omega
          have HEE := hid (show wmB m = false from wmB_no fun hw => hrl (by have := hw.row k hlt; rwa [row_at hlt] at this))
          clear hrl
          go_wp2
          go_ret
          exact ⟨ret_bool HEE.out.symm, rfl⟩
      · have HEE := hid (show wmB m = true from wmB_yes (GoodTo.wm (by have := HG.out; rwa [show k = m.length by omega] at this) HB.out.1 HB.out.2))
        go_wp2
        go_ret
        exact ⟨ret_bool HEE.out.symm, rfl⟩
  · have hin : inB (m.length : Int) 1 8 = false := by unfold inB; rw [decide_eq_false_iff_not]; omega
    have HIN := hid (fun (W : World) => impl_within (m.length : Int) 1 8 W)
    rw [hin] at HIN
    have HEE := hid (show wmB m = false from wmB_no fun hw => h18 ⟨hw.n1, hw.n8⟩)
    clear h18 hin
    go_enter Try.func93, Try.ntmps93
    go_wp2_with fail
    refine (HIN.out _).mono ?_
    rintro e w2 ⟨rfl, rfl⟩
    go_wp2
    go_ret
    exact ⟨ret_bool HEE.out.symm, rfl⟩
end Go.Proofs.Ytmembjjgkideeaa

namespace Go.Proofs.Ytmembjjgkideeaa
open Go.RowKit

theorem Cur.base {w0 w : World} {g : Nat} (h : Cur w0 w g) : Ext w0 w ∧ w0.heap.size ≤ g ∧ g < w.heap.size := by
  obtain ⟨A, cap, bs, p, hh, h1, h2, h3, h4, h5⟩ := h
  exact ⟨h2, h3, block_lt h4⟩
theorem Bld.kept {α : Type} {R : RepO α} {w w2 : World} {base g : Nat} {e : TypeId} {v : Value} {xs : List α} {F : List Nat} (h : Bld R w base e v xs F) (hg : g < base) (k : Kept g w w2) : Bld R w2 base e v xs F :=
  h.keep fun b hb hl => k.2 b hl (by omega)
theorem OwnSl.kept {α : Type} {R : RepO α} {w w2 : World} {g : Nat} {v : Value} {xs : List α} {F : List Nat} (h : OwnSl R w v xs F) (hg : g ∉ F) (k : Kept g w w2) : OwnSl R w2 v xs F :=
  h.keep fun b hb => k.2 b (h.lt b hb) (fun e => hg (e ▸ hb))
/-- an append; what it leaves, block by block -/
theorem wpList_app1g {P : Program} {α : Type} {R : RepO α} {ops : Array Oper} {rest : List Oper} {o : Oper} {a : Act} {W : World} {Q : Exit → Act → World → Prop} {t e : TypeId} {bytes : Nat} (E : ElemT P t e R.n bytes) (hsz : 0 < R.n)
    (hgd : o.guard = none) (s x : Operand) (ho : o.op = .call { callee := .builtin .append, args := #[s, x], argTypes := #[t, t] })
    {base : Nat} {v : Value} {xs : List α} {F : List Nat} (hb : Bld R W base e v xs F) (hs : a.eval s = v) {c : Array Value} {T : TypeId} (g k : Nat) (hx : a.eval x = .slice (some ⟨g, 0, none⟩) 1 k) (hg : g = W.heap.size)
    (h1 : ∀ u ∈ c.toList, u.oneCell' = true) {y : α} {G : List Nat} (hy : R.own W c.toList y G) (hG : (∀ b ∈ G, b ∉ F ∧ v.ownBlock ≠ some b) ∧ G.Nodup ∧ ∀ b ∈ G, base ≤ b)
    (hbytes : xs.length + 1 ≤ 1099511627776) (hby : bytes ≤ 128) (hbase : base ≤ W.heap.size)
    (h : ∀ v' w', Bld R w' base e v' (xs ++ [y]) (F ++ G) → (∀ w0 : World, w0.heap.size ≤ base → Ext w0 W → Ext w0 w') → W.heap.size ≤ w'.heap.size → (∀ b, b < base → w'.heap[b]? = W.heap[b]?) → wpList P ops Q rest (a.put o.dst v') w') :
    wpList P ops Q (o :: rest) a (W.alloc (.cells c T)) := by
  obtain ⟨ht, i, z, hi, hz, hsize, hby2, hzs⟩ := E
  have x1 : Ext W (W.alloc (.cells c T)) := (Ext.refl W).alloc _
  have hb1 := hb.ext x1
  have hl := hb1.lt
  obtain ⟨cs, b1, b2, b3, b4, b5⟩ := hb1
  have hy1 : R.own (W.alloc (.cells c T)) c.toList y G := R.own_keep (fun b hb => x1.block (R.own_lt hy b hb)) hy
  refine wpList_append_own_at (W.alloc (.cells c T)) hgd s x t ho base e i z R.n bytes ht hi hz hsize hby2 hzs hsz v xs.length cs hs b1 ⟨g, 0, none⟩ 1 k c.toList hx (by rw [R.len (R.own_rd hy), Nat.one_mul]) (fun j u hj => ?_) h1
    (by unfold maxLen; omega) (Nat.le_trans (Nat.mul_le_mul hbytes hby) (by decide)) (Nat.le_trans hbase x1.size) ?_
  · subst hg
    have : (W.alloc (.cells c T)).cell? ⟨W.heap.size, j, none⟩ = c[j]? := ((Ext.refl (W.alloc (.cells c T))).box).1 j
    rw [add_eq, Nat.zero_add, this]
    simpa using hj
  · intro v' w' hown hgr _ hat
    obtain ⟨h5, h6⟩ := bld_grown hl b2 b3 b4 b5 hy1 hG hown hgr hat
    refine h _ _ h5 (fun w0 h7 h8 => h6 w0 h7 (h8.trans x1)) (Nat.le_trans x1.size hgr.size) fun b hb => ?_
    have hbW : b < W.heap.size := by omega
    rw [hgr.block b (Nat.lt_of_lt_of_le hbW x1.size) (fun e => by have := (hl.2 b e.symm).2; omega), x1.block hbW]

set_option maxHeartbeats 400000 in
theorem spec_l1PickInt (w0 w : World) (g : Nat) (v : Value) (xs : List Int) (hl : 1 ≤ xs.length ∧ xs.length ≤ 256) (hc : Cur w0 w g) (hs : ∀ w2, Kept g w w2 → Sl intR w2 v xs) :
    Calls Try.prog 65 #[.pointer (some ⟨g, 0, none⟩), v] w fun e w2 => ∃ x, e = .returned (.int .i64 x) ∧ I64 x ∧ Cur w0 w2 g ∧ Kept g w w2 := by
  obtain ⟨A, cap, rfl, hm⟩ := (hs w (Kept.refl _ _)).form
  go_enter Try.func65, Try.ntmps65
  go_wp2_with fail
  refine (spec_l1Below w0 w g xs.length (by omega) hc).mono ?_
  rintro e w2 ⟨x, rfl, hx, hc2, hk⟩
  obtain ⟨j, rfl⟩ : ∃ j : Nat, x = j := ⟨x.toNat, by omega⟩
  have hj : j < xs.length := by omega
  obtain ⟨b, off, rfl, hI, hcell⟩ := (hs w2 hk).int hj
  go_wp2
  go_ret
  exact ⟨_, rfl, hI, hc2, hk⟩

set_option maxHeartbeats 400000 in
set_option maxRecDepth 20000 in
theorem spec_l1New (w : World) (v : Value) (bs : List Int) (h : Sl u8R w v bs) :
    Calls Try.prog 19 #[v] w fun e w2 => e = .returned (.pointer (some ⟨w.heap.size, 0, none⟩)) ∧ Cur w w2 w.heap.size ∧ Ext w w2 := by
  obtain ⟨A, cap, rfl, hm⟩ := h.form
  go_enter Try.func19, Try.ntmps19
  go_wp2
  go_loop [3, 4] (fun x i => ∃ (k : Nat) (u : Int), k ≤ bs.length ∧ i = .int .i64 k ∧ x = .int .i64 u ∧ I64 u) (fun _ i => bs.length - (intOf i).toNat)
  case atStart => exact ⟨0, _, Nat.zero_le _, rfl, rfl, by unfold I64; first | omega | (unfold wrap64; omega)⟩
  case round =>
    obtain ⟨k, u, hk, rfl, rfl, hu⟩ := hrel
    have hu' := hu.out
    by_cases hlt : k < bs.length
    · by_cases h4 : k < 4000
      · obtain ⟨b, off, rfl, hbd, hcb⟩ := h.u8 hlt
        go_wp2
        go_round
        case rel => exact ⟨k + 1, _, by omega, by go_num, rfl, by rw [i64_and30]; unfold I64; omega⟩
        case measure => simp [intOf]; omega
      · go_wp2
        go_ret
        exact ⟨rfl, ⟨A, cap, bs, 0, u, h, (Ext.refl _).alloc _, Nat.le_refl _, Blk.new w _ _, Nat.zero_le _, hu⟩, (Ext.refl _).alloc _⟩
    · go_wp2
      go_ret
      exact ⟨rfl, ⟨A, cap, bs, 0, u, h, (Ext.refl _).alloc _, Nat.le_refl _, Blk.new w _ _, Nat.zero_le _, hu⟩, (Ext.refl _).alloc _⟩

theorem lit_kept {w w2 : World} {g : Nat} {T : TypeId} {xs : List Int} {cs : Array Value} (hcs : cs.toList = xs.map (Value.int .i64)) (h : ∀ x ∈ xs, I64 x) (hl : xs.length ≤ maxLen) (hg : g < w.heap.size) (k : Kept g (w.alloc (.cells cs T)) w2) :
    OwnSl intO w2 (.slice (some ⟨w.heap.size, 0, none⟩) xs.length xs.length) xs [w.heap.size] := by
  have hb := Blk.new w T cs
  rw [hcs] at hb
  exact (OwnSl.of_blk hb hl (ints_cells _ _ h)).kept (by simp; omega) k

end Go.Proofs.Ytmembjjgkideeaa

namespace Go.Proofs.Ytmembjjgkideeaa
open Go.RowKit

set_option maxHeartbeats 400000 in
theorem laws_big (v : Value) (bs : List Int) (w : World) (h : Sl u8R w v bs) :
    Calls Try.prog 5 #[v] w fun e w2 => e = .returned (.bool (decide (1048576 < bs.length))) ∧ w = w2 := by
  obtain ⟨A, cap, rfl, hm⟩ := h.form
  go_enter Try.func5, Try.ntmps5
  go_wp2
  go_ret
  exact ⟨ret_bool (by simp; try omega), rfl⟩
end Go.Proofs.Ytmembjjgkideeaa

namespace Go.Proofs.Ytmembjjgkideeaa
open Go.RowKit

theorem Kept.alloc {g : Nat} {w w2 : World} (h : Kept g w w2) (o : Obj) : Kept g w (w2.alloc o) := h.trans (Ext.kept ((Ext.refl _).alloc _))
theorem Kept.drew {g : Nat} {w w2 : World} (h : Kept g w w2) : Kept g w w2.drew := h.trans (Ext.kept (Ext.refl _).drew)
theorem Kept.setN {g : Nat} {w w2 : World} (h : Kept g w w2) {p : Addr} (hp : w.heap.size ≤ p.block) (u : Value) : Kept g w (w2.setCell p u) :=
  ⟨by rw [World.size_setCell]; exact h.1, fun b hb hne => (keep_setCell (fun e => by omega)).trans (h.2 b hb hne)⟩
theorem Cur.setN {w0 w : World} {g : Nat} (h : Cur w0 w g) {p : Addr} (hp : g < p.block) (u : Value) : Cur w0 (w.setCell p u) g :=
  h.keep (h.base.1.setCell (by have := h.base.2.1; omega) u) (keep_setCell (by omega))
theorem Blk.kept {w w2 : World} {b g : Nat} {e : TypeId} {cs : List Value} (h : Blk w b e cs) (hne : b ≠ g) (k : Kept g w w2) : Blk w2 b e cs := h.keep (k.2 b (block_lt h) hne)
theorem Cur.alloc {w0 w : World} {g : Nat} (h : Cur w0 w g) (o : Obj) : Cur w0 (w.alloc o) g := h.ext ((Ext.refl w).alloc o)
theorem Cur.drew {w0 w : World} {g : Nat} (h : Cur w0 w g) : Cur w0 w.drew g := h.ext (Ext.refl w).drew
/-- a verdict that was drawn -/
def VerDrawn (w0 w : World) (g : Nat) (e : Ending) (w2 : World) : Prop := ∃ v : Verdict, e = .returned (.agg #[.int .i64 v.a, .int .i64 v.b, .bool v.same, .int .i64 v.time]) ∧ v.ok ∧ Cur w0 w2 g ∧ Kept g w w2

set_option maxHeartbeats 400000 in
theorem spec_l28Member (w0 w : World) (g : Nat) (hc : Cur w0 w g) :
    Calls Try.prog 85 #[.pointer (some ⟨g, 0, none⟩)] w fun e w2 => ∃ x, e = .returned (.int .i64 x) ∧ (0 ≤ x ∧ x ≤ 400) ∧ Cur w0 w2 g ∧ Kept g w w2 := by
  go_enter Try.func85, Try.ntmps85
  go_wp2_with fail
  refine (spec_l1Below w0 _ g 3 (by decide) hc).mono ?_
  rintro e w2 ⟨x1, rfl, hx1, hc2, hk2⟩
  have hg2 := hc2.base.2.2
  go_wp2_with fail
  refine (spec_l1Below w0 _ g 2 (by decide) hc2).mono ?_
  rintro e w3 ⟨x2, rfl, hx2, hc3, hk3⟩
  have hg3 := hc3.base.2.2
  go_wp2
  go_ret
  exact ⟨_, rfl, by omega, hc3, hk2.trans hk3⟩

set_option maxHeartbeats 400000 in
set_option maxRecDepth 20000 in
theorem spec_l28Verdict (w0 w : World) (g : Nat) (hc : Cur w0 w g) :
    Calls Try.prog 64 #[.pointer (some ⟨g, 0, none⟩)] w (VerDrawn w0 w g) := by
  have hg := hc.base.2.2
  have hc0 := hc.ext ((Ext.refl w).alloc (.cells #[.int .i64 0, .int .i64 0, .bool false, .int .i64 0] 32))
  have k0 := Ext.kept (g := g) ((Ext.refl w).alloc (.cells #[.int .i64 0, .int .i64 0, .bool false, .int .i64 0] 32))
  have b0 := Blk.new w 32 #[.int .i64 0, .int .i64 0, .bool false, .int .i64 0]
  go_enter Try.func64, Try.ntmps64
  go_wp2_with fail
  refine (spec_l28Member w0 _ g hc0).mono ?_
  rintro e w2 ⟨a, rfl, ha, hc2, hk2⟩
  have hg2 := hc2.base.2.2
  go_wp2_with fail
  refine (spec_l28Member w0 _ g hc2).mono ?_
  rintro e w3 ⟨b, rfl, hb, hc3, hk3⟩
  have hg3 := hc3.base.2.2
  have hk23 := hk2.trans hk3
  clear hk2 hk3
  rcases Int.lt_trichotomy a b with h | h | h
  · have hm1 : min a b = a := by omega
    have hm2 : max a b = b := by omega
    go_wp2_with fail
    refine (spec_l1Once w0 _ g 3 (by decide) hc3).mono ?_
    rintro e w4 ⟨s, rfl, hc4, hk4⟩
    have hg4 := hc4.base.2.2
    go_wp2_with fail
    refine (spec_l1Below w0 _ g 6 (by decide) hc4).mono ?_
    rintro e w5 ⟨x4, rfl, hx4, hc5, hk5⟩
    have hg5 := hc5.base.2.2
    have hk35 := hk4.trans hk5
    have hk := k0.trans (hk23.trans hk35)
    have bR := b0.kept (Nat.ne_of_gt hg) (hk23.trans hk35)
    have HI := hid (show Verdict.ok ⟨a, b, !s, 1 + x4⟩ from ⟨by simp only [I64]; omega, by simp only [I64]; omega, by simp only [I64]; omega⟩)
    clear hc hc0 k0 b0 hc2 hc3 hc4 hk23 hk4 hk5 hk35 hg2 hg3 hg4
    obtain ⟨cR, fR⟩ := bR.cells
    go_wp2
    have b9 : Blk ((((w5.setCell ⟨w.heap.size, 0, none⟩ (.int .i64 (a))).setCell ⟨w.heap.size, 1, none⟩ (.int .i64 (b))).setCell ⟨w.heap.size, 2, none⟩ (.bool (!s))).setCell ⟨w.heap.size, 3, none⟩ (.int .i64 (1 + x4))) w.heap.size 32 [.int .i64 (a), .int .i64 (b), .bool (!s), .int .i64 (1 + x4)] := ((((bR.setAt 0 (by show 0 < 4; decide) (.int .i64 (a))).setAt 1 (by show 1 < 4; decide) (.int .i64 (b))).setAt 2 (by show 2 < 4; decide) (.bool (!s))).setAt 3 (by show 3 < 4; decide) (.int .i64 (1 + x4)))
    have r0 : ((((w5.setCell ⟨w.heap.size, 0, none⟩ (.int .i64 (a))).setCell ⟨w.heap.size, 1, none⟩ (.int .i64 (b))).setCell ⟨w.heap.size, 2, none⟩ (.bool (!s))).setCell ⟨w.heap.size, 3, none⟩ (.int .i64 (1 + x4))).cell? ⟨w.heap.size, 0, none⟩ = some (.int .i64 (a)) := b9.cells.1 0
    have r1 : ((((w5.setCell ⟨w.heap.size, 0, none⟩ (.int .i64 (a))).setCell ⟨w.heap.size, 1, none⟩ (.int .i64 (b))).setCell ⟨w.heap.size, 2, none⟩ (.bool (!s))).setCell ⟨w.heap.size, 3, none⟩ (.int .i64 (1 + x4))).cell? ⟨w.heap.size, 1, none⟩ = some (.int .i64 (b)) := b9.cells.1 1
    have r2 : ((((w5.setCell ⟨w.heap.size, 0, none⟩ (.int .i64 (a))).setCell ⟨w.heap.size, 1, none⟩ (.int .i64 (b))).setCell ⟨w.heap.size, 2, none⟩ (.bool (!s))).setCell ⟨w.heap.size, 3, none⟩ (.int .i64 (1 + x4))).cell? ⟨w.heap.size, 2, none⟩ = some (.bool (!s)) := b9.cells.1 2
    have r3 : ((((w5.setCell ⟨w.heap.size, 0, none⟩ (.int .i64 (a))).setCell ⟨w.heap.size, 1, none⟩ (.int .i64 (b))).setCell ⟨w.heap.size, 2, none⟩ (.bool (!s))).setCell ⟨w.heap.size, 3, none⟩ (.int .i64 (1 + x4))).cell? ⟨w.heap.size, 3, none⟩ = some (.int .i64 (1 + x4)) := b9.cells.1 3
    have k9 : Kept g w ((((w5.setCell ⟨w.heap.size, 0, none⟩ (.int .i64 (a))).setCell ⟨w.heap.size, 1, none⟩ (.int .i64 (b))).setCell ⟨w.heap.size, 2, none⟩ (.bool (!s))).setCell ⟨w.heap.size, 3, none⟩ (.int .i64 (1 + x4))) := ((((hk.setN (Nat.le_refl _) _).setN (Nat.le_refl _) _).setN (Nat.le_refl _) _).setN (Nat.le_refl _) _)
    have c9 : Cur w0 ((((w5.setCell ⟨w.heap.size, 0, none⟩ (.int .i64 (a))).setCell ⟨w.heap.size, 1, none⟩ (.int .i64 (b))).setCell ⟨w.heap.size, 2, none⟩ (.bool (!s))).setCell ⟨w.heap.size, 3, none⟩ (.int .i64 (1 + x4))) g := ((((hc5.setN hg _).setN hg _).setN hg _).setN hg _)
    refine bodyPost_ret (v := .agg #[.int .i64 (a), .int .i64 (b), .bool (!s), .int .i64 (1 + x4)]) (by simp [results, Try.results64, go_sem, r0, r1, r2, r3]) rfl ?_
    exact ⟨⟨a, b, !s, 1 + x4⟩, rfl, HI.out, c9, k9⟩
  · subst h
    have hm1 : min a (a + 1) = a := by omega
    have hm2 : max a (a + 1) = a + 1 := by omega
    go_wp2_with fail
    refine (spec_l1Once w0 _ g 3 (by decide) hc3).mono ?_
    rintro e w4 ⟨s, rfl, hc4, hk4⟩
    have hg4 := hc4.base.2.2
    go_wp2_with fail
    refine (spec_l1Below w0 _ g 6 (by decide) hc4).mono ?_
    rintro e w5 ⟨x4, rfl, hx4, hc5, hk5⟩
    have hg5 := hc5.base.2.2
    have hk35 := hk4.trans hk5
    have hk := k0.trans (hk23.trans hk35)
    have bR := b0.kept (Nat.ne_of_gt hg) (hk23.trans hk35)
    have HI := hid (show Verdict.ok ⟨a, a + 1, !s, 1 + x4⟩ from ⟨by simp only [I64]; omega, by simp only [I64]; omega, by simp only [I64]; omega⟩)
    clear hc hc0 k0 b0 hc2 hc3 hc4 hk23 hk4 hk5 hk35 hg2 hg3 hg4
    obtain ⟨cR, fR⟩ := bR.cells
    go_wp2
    have b9 : Blk ((((w5.setCell ⟨w.heap.size, 0, none⟩ (.int .i64 (a))).setCell ⟨w.heap.size, 1, none⟩ (.int .i64 (a + 1))).setCell ⟨w.heap.size, 2, none⟩ (.bool (!s))).setCell ⟨w.heap.size, 3, none⟩ (.int .i64 (1 + x4))) w.heap.size 32 [.int .i64 (a), .int .i64 (a + 1), .bool (!s), .int .i64 (1 + x4)] := ((((bR.setAt 0 (by show 0 < 4; decide) (.int .i64 (a))).setAt 1 (by show 1 < 4; decide) (.int .i64 (a + 1))).setAt 2 (by show 2 < 4; decide) (.bool (!s))).setAt 3 (by show 3 < 4; decide) (.int .i64 (1 + x4)))
    have r0 : ((((w5.setCell ⟨w.heap.size, 0, none⟩ (.int .i64 (a))).setCell ⟨w.heap.size, 1, none⟩ (.int .i64 (a + 1))).setCell ⟨w.heap.size, 2, none⟩ (.bool (!s))).setCell ⟨w.heap.size, 3, none⟩ (.int .i64 (1 + x4))).cell? ⟨w.heap.size, 0, none⟩ = some (.int .i64 (a)) := b9.cells.1 0
    have r1 : ((((w5.setCell ⟨w.heap.size, 0, none⟩ (.int .i64 (a))).setCell ⟨w.heap.size, 1, none⟩ (.int .i64 (a + 1))).setCell ⟨w.heap.size, 2, none⟩ (.bool (!s))).setCell ⟨w.heap.size, 3, none⟩ (.int .i64 (1 + x4))).cell? ⟨w.heap.size, 1, none⟩ = some (.int .i64 (a + 1)) := b9.cells.1 1
    have r2 : ((((w5.setCell ⟨w.heap.size, 0, none⟩ (.int .i64 (a))).setCell ⟨w.heap.size, 1, none⟩ (.int .i64 (a + 1))).setCell ⟨w.heap.size, 2, none⟩ (.bool (!s))).setCell ⟨w.heap.size, 3, none⟩ (.int .i64 (1 + x4))).cell? ⟨w.heap.size, 2, none⟩ = some (.bool (!s)) := b9.cells.1 2
    have r3 : ((((w5.setCell ⟨w.heap.size, 0, none⟩ (.int .i64 (a))).setCell ⟨w.heap.size, 1, none⟩ (.int .i64 (a + 1))).setCell ⟨w.heap.size, 2, none⟩ (.bool (!s))).setCell ⟨w.heap.size, 3, none⟩ (.int .i64 (1 + x4))).cell? ⟨w.heap.size, 3, none⟩ = some (.int .i64 (1 + x4)) := b9.cells.1 3
    have k9 : Kept g w ((((w5.setCell ⟨w.heap.size, 0, none⟩ (.int .i64 (a))).setCell ⟨w.heap.size, 1, none⟩ (.int .i64 (a + 1))).setCell ⟨w.heap.size, 2, none⟩ (.bool (!s))).setCell ⟨w.heap.size, 3, none⟩ (.int .i64 (1 + x4))) := ((((hk.setN (Nat.le_refl _) _).setN (Nat.le_refl _) _).setN (Nat.le_refl _) _).setN (Nat.le_refl _) _)
    have c9 : Cur w0 ((((w5.setCell ⟨w.heap.size, 0, none⟩ (.int .i64 (a))).setCell ⟨w.heap.size, 1, none⟩ (.int .i64 (a + 1))).setCell ⟨w.heap.size, 2, none⟩ (.bool (!s))).setCell ⟨w.heap.size, 3, none⟩ (.int .i64 (1 + x4))) g := ((((hc5.setN hg _).setN hg _).setN hg _).setN hg _)
    refine bodyPost_ret (v := .agg #[.int .i64 (a), .int .i64 (a + 1), .bool (!s), .int .i64 (1 + x4)]) (by simp [results, Try.results64, go_sem, r0, r1, r2, r3]) rfl ?_
    exact ⟨⟨a, a + 1, !s, 1 + x4⟩, rfl, HI.out, c9, k9⟩
  · have hm1 : min a b = b := by omega
    have hm2 : max a b = a := by omega
    go_wp2_with fail
    refine (spec_l1Once w0 _ g 3 (by decide) hc3).mono ?_
    rintro e w4 ⟨s, rfl, hc4, hk4⟩
    have hg4 := hc4.base.2.2
    go_wp2_with fail
    refine (spec_l1Below w0 _ g 6 (by decide) hc4).mono ?_
    rintro e w5 ⟨x4, rfl, hx4, hc5, hk5⟩
    have hg5 := hc5.base.2.2
    have hk35 := hk4.trans hk5
    have hk := k0.trans (hk23.trans hk35)
    have bR := b0.kept (Nat.ne_of_gt hg) (hk23.trans hk35)
    have HI := hid (show Verdict.ok ⟨b, a, !s, 1 + x4⟩ from ⟨by simp only [I64]; omega, by simp only [I64]; omega, by simp only [I64]; omega⟩)
    clear hc hc0 k0 b0 hc2 hc3 hc4 hk23 hk4 hk5 hk35 hg2 hg3 hg4
    obtain ⟨cR, fR⟩ := bR.cells
    go_wp2
    have b9 : Blk ((((w5.setCell ⟨w.heap.size, 0, none⟩ (.int .i64 (b))).setCell ⟨w.heap.size, 1, none⟩ (.int .i64 (a))).setCell ⟨w.heap.size, 2, none⟩ (.bool (!s))).setCell ⟨w.heap.size, 3, none⟩ (.int .i64 (1 + x4))) w.heap.size 32 [.int .i64 (b), .int .i64 (a), .bool (!s), .int .i64 (1 + x4)] := ((((bR.setAt 0 (by show 0 < 4; decide) (.int .i64 (b))).setAt 1 (by show 1 < 4; decide) (.int .i64 (a))).setAt 2 (by show 2 < 4; decide) (.bool (!s))).setAt 3 (by show 3 < 4; decide) (.int .i64 (1 + x4)))
    have r0 : ((((w5.setCell ⟨w.heap.size, 0, none⟩ (.int .i64 (b))).setCell ⟨w.heap.size, 1, none⟩ (.int .i64 (a))).setCell ⟨w.heap.size, 2, none⟩ (.bool (!s))).setCell ⟨w.heap.size, 3, none⟩ (.int .i64 (1 + x4))).cell? ⟨w.heap.size, 0, none⟩ = some (.int .i64 (b)) := b9.cells.1 0
    have r1 : ((((w5.setCell ⟨w.heap.size, 0, none⟩ (.int .i64 (b))).setCell ⟨w.heap.size, 1, none⟩ (.int .i64 (a))).setCell ⟨w.heap.size, 2, none⟩ (.bool (!s))).setCell ⟨w.heap.size, 3, none⟩ (.int .i64 (1 + x4))).cell? ⟨w.heap.size, 1, none⟩ = some (.int .i64 (a)) := b9.cells.1 1
    have r2 : ((((w5.setCell ⟨w.heap.size, 0, none⟩ (.int .i64 (b))).setCell ⟨w.heap.size, 1, none⟩ (.int .i64 (a))).setCell ⟨w.heap.size, 2, none⟩ (.bool (!s))).setCell ⟨w.heap.size, 3, none⟩ (.int .i64 (1 + x4))).cell? ⟨w.heap.size, 2, none⟩ = some (.bool (!s)) := b9.cells.1 2
    have r3 : ((((w5.setCell ⟨w.heap.size, 0, none⟩ (.int .i64 (b))).setCell ⟨w.heap.size, 1, none⟩ (.int .i64 (a))).setCell ⟨w.heap.size, 2, none⟩ (.bool (!s))).setCell ⟨w.heap.size, 3, none⟩ (.int .i64 (1 + x4))).cell? ⟨w.heap.size, 3, none⟩ = some (.int .i64 (1 + x4)) := b9.cells.1 3
    have k9 : Kept g w ((((w5.setCell ⟨w.heap.size, 0, none⟩ (.int .i64 (b))).setCell ⟨w.heap.size, 1, none⟩ (.int .i64 (a))).setCell ⟨w.heap.size, 2, none⟩ (.bool (!s))).setCell ⟨w.heap.size, 3, none⟩ (.int .i64 (1 + x4))) := ((((hk.setN (Nat.le_refl _) _).setN (Nat.le_refl _) _).setN (Nat.le_refl _) _).setN (Nat.le_refl _) _)
    have c9 : Cur w0 ((((w5.setCell ⟨w.heap.size, 0, none⟩ (.int .i64 (b))).setCell ⟨w.heap.size, 1, none⟩ (.int .i64 (a))).setCell ⟨w.heap.size, 2, none⟩ (.bool (!s))).setCell ⟨w.heap.size, 3, none⟩ (.int .i64 (1 + x4))) g := ((((hc5.setN hg _).setN hg _).setN hg _).setN hg _)
    refine bodyPost_ret (v := .agg #[.int .i64 (b), .int .i64 (a), .bool (!s), .int .i64 (1 + x4)]) (by simp [results, Try.results64, go_sem, r0, r1, r2, r3]) rfl ?_
    exact ⟨⟨b, a, !s, 1 + x4⟩, rfl, HI.out, c9, k9⟩

set_option maxHeartbeats 1000000 in
set_option maxRecDepth 20000 in
theorem spec_l28Any (w0 w : World) (g : Nat) (hc : Cur w0 w g) :
    Calls Try.prog 41 #[.pointer (some ⟨g, 0, none⟩)] w (VerDrawn w0 w g) := by
  have hg := hc.base.2.2
  have hc0 := hc.ext ((Ext.refl w).alloc (.cells #[.int .i64 0, .int .i64 0, .bool false, .int .i64 0] 32))
  have k0 := Ext.kept (g := g) ((Ext.refl w).alloc (.cells #[.int .i64 0, .int .i64 0, .bool false, .int .i64 0] 32))
  have b0 := Blk.new w 32 #[.int .i64 0, .int .i64 0, .bool false, .int .i64 0]
  go_enter Try.func41, Try.ntmps41
  go_wp2_with fail
  refine (spec_l28Verdict w0 _ g hc0).mono ?_
  rintro e w2 ⟨v, rfl, vok, hc2, hk2⟩
  have hgL := hc2.base.2.2
  have hk02 := k0.trans hk2
  have hwL := hk02.1
  have hnLR : ¬ w2.heap.size = w.heap.size := by have := block_lt (b0.kept (Nat.ne_of_gt hg) hk2); omega
  have hnRL : ¬ w.heap.size = w2.heap.size := fun e => hnLR e.symm
  have bL2 := Blk.new w2 32 #[.int .i64 v.a, .int .i64 v.b, .bool v.same, .int .i64 v.time]
  have bR2 := (b0.kept (Nat.ne_of_gt hg) hk2).ext ((Ext.refl w2).alloc (.cells #[.int .i64 v.a, .int .i64 v.b, .bool v.same, .int .i64 v.time] 32))
  have hc2a := hc2.ext ((Ext.refl w2).alloc (.cells #[.int .i64 v.a, .int .i64 v.b, .bool v.same, .int .i64 v.time] 32))
  have hk2a := hk02.alloc (.cells #[.int .i64 v.a, .int .i64 v.b, .bool v.same, .int .i64 v.time] 32)
  clear hc hc0 k0 b0 hc2 hk2 hk02
  go_wp2_with fail
  refine (spec_l1Below w0 _ g 14 (by decide) hc2a).mono ?_
  rintro e w3 ⟨x, rfl, hx, hc3, hk3⟩
  have hg3 := hc3.base.2.2
  have bL3 := bL2.kept (Nat.ne_of_gt hgL) hk3
  have bR3 := bR2.kept (Nat.ne_of_gt hg) hk3
  have hk03 := hk2a.trans hk3
  clear bL2 bR2 hc2a hk2a hk3
  obtain ⟨va, vb, vt⟩ := id vok
  by_cases h0 : x = 0
  · subst h0
    obtain ⟨cL3, _⟩ := bL3.cells
    go_wp2_with fail
    refine (spec_l1PickInt w0 _ g _ [0, 399, v.b] (by show 1 ≤ 3 ∧ 3 ≤ 256; decide) (hc3.ext ((Ext.refl _).alloc _)) (fun w4 k4 => (lit_kept rfl (by intro q hq; simp only [List.mem_cons, List.not_mem_nil, or_false] at hq; rcases hq with rfl | rfl | rfl; (exact ⟨by decide, by decide⟩); (exact ⟨by decide, by decide⟩); exact vb) (by show 3 ≤ maxLen; decide) hg3 k4).sl)).mono ?_
    rintro e w4 ⟨y, rfl, hy, hc4, hk4⟩
    replace hk4 := (Ext.kept (g := g) ((Ext.refl _).alloc _)).trans hk4
    have hg4 := hc4.base.2.2
    have bLn := bL3.kept (Nat.ne_of_gt hgL) hk4
    have bRn := bR3.kept (Nat.ne_of_gt hg) hk4
    have hkn := hk03.trans hk4
    clear hk4 hg4 hc3 bL3 bR3 hk03
    have bL9 : Blk (w4.setCell ⟨w2.heap.size, 0, none⟩ (.int .i64 y)) w2.heap.size 32 [.int .i64 y, .int .i64 v.b, .bool v.same, .int .i64 v.time] := (bLn.setAt 0 (by show 0 < 4; decide) (.int .i64 y))
    have bR9 := (bRn.other (i := 0) (u := .int .i64 y) hnRL)
    have kL9 : Kept g w (w4.setCell ⟨w2.heap.size, 0, none⟩ (.int .i64 y)) := (hkn.setN hwL _)
    have cL9 : Cur w0 (w4.setCell ⟨w2.heap.size, 0, none⟩ (.int .i64 y)) g := (hc4.setN hgL _)
    have HI := hid (show Verdict.ok ⟨y, v.b, v.same, v.time⟩ from ⟨hy, vb, vt⟩)
    obtain ⟨cL0, fL0⟩ := bLn.cells
    obtain ⟨cL, fL⟩ := bL9.cells
    obtain ⟨cR, fR⟩ := bR9.cells
    go_wp2
    have b9 : Blk (((((w4.setCell ⟨w2.heap.size, 0, none⟩ (.int .i64 y)).setCell ⟨w.heap.size, 0, none⟩ (.int .i64 y)).setCell ⟨w.heap.size, 1, none⟩ (.int .i64 v.b)).setCell ⟨w.heap.size, 2, none⟩ (.bool v.same)).setCell ⟨w.heap.size, 3, none⟩ (.int .i64 v.time)) w.heap.size 32 [.int .i64 y, .int .i64 v.b, .bool v.same, .int .i64 v.time] := ((((bR9.setAt 0 (by show 0 < 4; decide) (.int .i64 y)).setAt 1 (by show 1 < 4; decide) (.int .i64 v.b)).setAt 2 (by show 2 < 4; decide) (.bool v.same)).setAt 3 (by show 3 < 4; decide) (.int .i64 v.time))
    have r0 : (((((w4.setCell ⟨w2.heap.size, 0, none⟩ (.int .i64 y)).setCell ⟨w.heap.size, 0, none⟩ (.int .i64 y)).setCell ⟨w.heap.size, 1, none⟩ (.int .i64 v.b)).setCell ⟨w.heap.size, 2, none⟩ (.bool v.same)).setCell ⟨w.heap.size, 3, none⟩ (.int .i64 v.time)).cell? ⟨w.heap.size, 0, none⟩ = some (.int .i64 y) := b9.cells.1 0
    have r1 : (((((w4.setCell ⟨w2.heap.size, 0, none⟩ (.int .i64 y)).setCell ⟨w.heap.size, 0, none⟩ (.int .i64 y)).setCell ⟨w.heap.size, 1, none⟩ (.int .i64 v.b)).setCell ⟨w.heap.size, 2, none⟩ (.bool v.same)).setCell ⟨w.heap.size, 3, none⟩ (.int .i64 v.time)).cell? ⟨w.heap.size, 1, none⟩ = some (.int .i64 v.b) := b9.cells.1 1
    have r2 : (((((w4.setCell ⟨w2.heap.size, 0, none⟩ (.int .i64 y)).setCell ⟨w.heap.size, 0, none⟩ (.int .i64 y)).setCell ⟨w.heap.size, 1, none⟩ (.int .i64 v.b)).setCell ⟨w.heap.size, 2, none⟩ (.bool v.same)).setCell ⟨w.heap.size, 3, none⟩ (.int .i64 v.time)).cell? ⟨w.heap.size, 2, none⟩ = some (.bool v.same) := b9.cells.1 2
    have r3 : (((((w4.setCell ⟨w2.heap.size, 0, none⟩ (.int .i64 y)).setCell ⟨w.heap.size, 0, none⟩ (.int .i64 y)).setCell ⟨w.heap.size, 1, none⟩ (.int .i64 v.b)).setCell ⟨w.heap.size, 2, none⟩ (.bool v.same)).setCell ⟨w.heap.size, 3, none⟩ (.int .i64 v.time)).cell? ⟨w.heap.size, 3, none⟩ = some (.int .i64 v.time) := b9.cells.1 3
    have k9 : Kept g w (((((w4.setCell ⟨w2.heap.size, 0, none⟩ (.int .i64 y)).setCell ⟨w.heap.size, 0, none⟩ (.int .i64 y)).setCell ⟨w.heap.size, 1, none⟩ (.int .i64 v.b)).setCell ⟨w.heap.size, 2, none⟩ (.bool v.same)).setCell ⟨w.heap.size, 3, none⟩ (.int .i64 v.time)) := ((((kL9.setN (Nat.le_refl _) _).setN (Nat.le_refl _) _).setN (Nat.le_refl _) _).setN (Nat.le_refl _) _)
    have c9 : Cur w0 (((((w4.setCell ⟨w2.heap.size, 0, none⟩ (.int .i64 y)).setCell ⟨w.heap.size, 0, none⟩ (.int .i64 y)).setCell ⟨w.heap.size, 1, none⟩ (.int .i64 v.b)).setCell ⟨w.heap.size, 2, none⟩ (.bool v.same)).setCell ⟨w.heap.size, 3, none⟩ (.int .i64 v.time)) g := ((((cL9.setN hg _).setN hg _).setN hg _).setN hg _)
    refine bodyPost_ret (v := .agg #[.int .i64 y, .int .i64 v.b, .bool v.same, .int .i64 v.time]) (by simp [results, Try.results41, go_sem, r0, r1, r2, r3]) rfl ?_
    exact ⟨⟨y, v.b, v.same, v.time⟩, rfl, HI.out, c9, k9⟩
  · by_cases h1 : x = 1
    · subst h1
      go_wp2_with fail
      refine (spec_l1PickInt w0 _ g _ [0, 999, 1000] (by show 1 ≤ 3 ∧ 3 ≤ 256; decide) (hc3.ext ((Ext.refl _).alloc _)) (fun w4 k4 => (lit_kept rfl (by simp [I64]) (by show 3 ≤ maxLen; decide) hg3 k4).sl)).mono ?_
      rintro e w4 ⟨y, rfl, hy, hc4, hk4⟩
      replace hk4 := (Ext.kept (g := g) ((Ext.refl _).alloc _)).trans hk4
      have hg4 := hc4.base.2.2
      have bLn := bL3.kept (Nat.ne_of_gt hgL) hk4
      have bRn := bR3.kept (Nat.ne_of_gt hg) hk4
      have hkn := hk03.trans hk4
      clear hk4 hg4 hc3 bL3 bR3 hk03
      have bL9 : Blk (w4.setCell ⟨w2.heap.size, 3, none⟩ (.int .i64 y)) w2.heap.size 32 [.int .i64 v.a, .int .i64 v.b, .bool v.same, .int .i64 y] := (bLn.setAt 3 (by show 3 < 4; decide) (.int .i64 y))
      have bR9 := (bRn.other (i := 3) (u := .int .i64 y) hnRL)
      have kL9 : Kept g w (w4.setCell ⟨w2.heap.size, 3, none⟩ (.int .i64 y)) := (hkn.setN hwL _)
      have cL9 : Cur w0 (w4.setCell ⟨w2.heap.size, 3, none⟩ (.int .i64 y)) g := (hc4.setN hgL _)
      have HI := hid (show Verdict.ok ⟨v.a, v.b, v.same, y⟩ from ⟨va, vb, hy⟩)
      obtain ⟨cL0, fL0⟩ := bLn.cells
      obtain ⟨cL, fL⟩ := bL9.cells
      obtain ⟨cR, fR⟩ := bR9.cells
      go_wp2
      have b9 : Blk (((((w4.setCell ⟨w2.heap.size, 3, none⟩ (.int .i64 y)).setCell ⟨w.heap.size, 0, none⟩ (.int .i64 v.a)).setCell ⟨w.heap.size, 1, none⟩ (.int .i64 v.b)).setCell ⟨w.heap.size, 2, none⟩ (.bool v.same)).setCell ⟨w.heap.size, 3, none⟩ (.int .i64 y)) w.heap.size 32 [.int .i64 v.a, .int .i64 v.b, .bool v.same, .int .i64 y] := ((((bR9.setAt 0 (by show 0 < 4; decide) (.int .i64 v.a)).setAt 1 (by show 1 < 4; decide) (.int .i64 v.b)).setAt 2 (by show 2 < 4; decide) (.bool v.same)).setAt 3 (by show 3 < 4; decide) (.int .i64 y))
      have r0 : (((((w4.setCell ⟨w2.heap.size, 3, none⟩ (.int .i64 y)).setCell ⟨w.heap.size, 0, none⟩ (.int .i64 v.a)).setCell ⟨w.heap.size, 1, none⟩ (.int .i64 v.b)).setCell ⟨w.heap.size, 2, none⟩ (.bool v.same)).setCell ⟨w.heap.size, 3, none⟩ (.int .i64 y)).cell? ⟨w.heap.size, 0, none⟩ = some (.int .i64 v.a) := b9.cells.1 0
      have r1 : (((((w4.setCell ⟨w2.heap.size, 3, none⟩ (.int .i64 y)).setCell ⟨w.heap.size, 0, none⟩ (.int .i64 v.a)).setCell ⟨w.heap.size, 1, none⟩ (.int .i64 v.b)).setCell ⟨w.heap.size, 2, none⟩ (.bool v.same)).setCell ⟨w.heap.size, 3, none⟩ (.int .i64 y)).cell? ⟨w.heap.size, 1, none⟩ = some (.int .i64 v.b) := b9.cells.1 1
      have r2 : (((((w4.setCell ⟨w2.heap.size, 3, none⟩ (.int .i64 y)).setCell ⟨w.heap.size, 0, none⟩ (.int .i64 v.a)).setCell ⟨w.heap.size, 1, none⟩ (.int .i64 v.b)).setCell ⟨w.heap.size, 2, none⟩ (.bool v.same)).setCell ⟨w.heap.size, 3, none⟩ (.int .i64 y)).cell? ⟨w.heap.size, 2, none⟩ = some (.bool v.same) := b9.cells.1 2
      have r3 : (((((w4.setCell ⟨w2.heap.size, 3, none⟩ (.int .i64 y)).setCell ⟨w.heap.size, 0, none⟩ (.int .i64 v.a)).setCell ⟨w.heap.size, 1, none⟩ (.int .i64 v.b)).setCell ⟨w.heap.size, 2, none⟩ (.bool v.same)).setCell ⟨w.heap.size, 3, none⟩ (.int .i64 y)).cell? ⟨w.heap.size, 3, none⟩ = some (.int .i64 y) := b9.cells.1 3
      have k9 : Kept g w (((((w4.setCell ⟨w2.heap.size, 3, none⟩ (.int .i64 y)).setCell ⟨w.heap.size, 0, none⟩ (.int .i64 v.a)).setCell ⟨w.heap.size, 1, none⟩ (.int .i64 v.b)).setCell ⟨w.heap.size, 2, none⟩ (.bool v.same)).setCell ⟨w.heap.size, 3, none⟩ (.int .i64 y)) := ((((kL9.setN (Nat.le_refl _) _).setN (Nat.le_refl _) _).setN (Nat.le_refl _) _).setN (Nat.le_refl _) _)
      have c9 : Cur w0 (((((w4.setCell ⟨w2.heap.size, 3, none⟩ (.int .i64 y)).setCell ⟨w.heap.size, 0, none⟩ (.int .i64 v.a)).setCell ⟨w.heap.size, 1, none⟩ (.int .i64 v.b)).setCell ⟨w.heap.size, 2, none⟩ (.bool v.same)).setCell ⟨w.heap.size, 3, none⟩ (.int .i64 y)) g := ((((cL9.setN hg _).setN hg _).setN hg _).setN hg _)
      refine bodyPost_ret (v := .agg #[.int .i64 v.a, .int .i64 v.b, .bool v.same, .int .i64 y]) (by simp [results, Try.results41, go_sem, r0, r1, r2, r3]) rfl ?_
      exact ⟨⟨v.a, v.b, v.same, y⟩, rfl, HI.out, c9, k9⟩
    · by_cases h2 : x = 2
      · subst h2
        have bL9 : Blk (w3.setCell ⟨w2.heap.size, 1, none⟩ (.int .i64 400)) w2.heap.size 32 [.int .i64 v.a, .int .i64 400, .bool v.same, .int .i64 v.time] := (bL3.setAt 1 (by show 1 < 4; decide) (.int .i64 400))
        have bR9 := (bR3.other (i := 1) (u := .int .i64 400) hnRL)
        have kL9 : Kept g w (w3.setCell ⟨w2.heap.size, 1, none⟩ (.int .i64 400)) := (hk03.setN hwL _)
        have cL9 : Cur w0 (w3.setCell ⟨w2.heap.size, 1, none⟩ (.int .i64 400)) g := (hc3.setN hgL _)
        have HI := hid (show Verdict.ok ⟨v.a, 400, v.same, v.time⟩ from ⟨va, by show I64 400; exact ⟨by decide, by decide⟩, vt⟩)
        obtain ⟨cL0, fL0⟩ := bL3.cells
        obtain ⟨cL, fL⟩ := bL9.cells
        obtain ⟨cR, fR⟩ := bR9.cells
        go_wp2
        have b9 : Blk (((((w3.setCell ⟨w2.heap.size, 1, none⟩ (.int .i64 400)).setCell ⟨w.heap.size, 0, none⟩ (.int .i64 v.a)).setCell ⟨w.heap.size, 1, none⟩ (.int .i64 400)).setCell ⟨w.heap.size, 2, none⟩ (.bool v.same)).setCell ⟨w.heap.size, 3, none⟩ (.int .i64 v.time)) w.heap.size 32 [.int .i64 v.a, .int .i64 400, .bool v.same, .int .i64 v.time] := ((((bR9.setAt 0 (by show 0 < 4; decide) (.int .i64 v.a)).setAt 1 (by show 1 < 4; decide) (.int .i64 400)).setAt 2 (by show 2 < 4; decide) (.bool v.same)).setAt 3 (by show 3 < 4; decide) (.int .i64 v.time))
        have r0 : (((((w3.setCell ⟨w2.heap.size, 1, none⟩ (.int .i64 400)).setCell ⟨w.heap.size, 0, none⟩ (.int .i64 v.a)).setCell ⟨w.heap.size, 1, none⟩ (.int .i64 400)).setCell ⟨w.heap.size, 2, none⟩ (.bool v.same)).setCell ⟨w.heap.size, 3, none⟩ (.int .i64 v.time)).cell? ⟨w.heap.size, 0, none⟩ = some (.int .i64 v.a) := b9.cells.1 0
        have r1 : (((((w3.setCell ⟨w2.heap.size, 1, none⟩ (.int .i64 400)).setCell ⟨w.heap.size, 0, none⟩ (.int .i64 v.a)).setCell ⟨w.heap.size, 1, none⟩ (.int .i64 400)).setCell ⟨w.heap.size, 2, none⟩ (.bool v.same)).setCell ⟨w.heap.size, 3, none⟩ (.int .i64 v.time)).cell? ⟨w.heap.size, 1, none⟩ = some (.int .i64 400) := b9.cells.1 1
        have r2 : (((((w3.setCell ⟨w2.heap.size, 1, none⟩ (.int .i64 400)).setCell ⟨w.heap.size, 0, none⟩ (.int .i64 v.a)).setCell ⟨w.heap.size, 1, none⟩ (.int .i64 400)).setCell ⟨w.heap.size, 2, none⟩ (.bool v.same)).setCell ⟨w.heap.size, 3, none⟩ (.int .i64 v.time)).cell? ⟨w.heap.size, 2, none⟩ = some (.bool v.same) := b9.cells.1 2
        have r3 : (((((w3.setCell ⟨w2.heap.size, 1, none⟩ (.int .i64 400)).setCell ⟨w.heap.size, 0, none⟩ (.int .i64 v.a)).setCell ⟨w.heap.size, 1, none⟩ (.int .i64 400)).setCell ⟨w.heap.size, 2, none⟩ (.bool v.same)).setCell ⟨w.heap.size, 3, none⟩ (.int .i64 v.time)).cell? ⟨w.heap.size, 3, none⟩ = some (.int .i64 v.time) := b9.cells.1 3
        have k9 : Kept g w (((((w3.setCell ⟨w2.heap.size, 1, none⟩ (.int .i64 400)).setCell ⟨w.heap.size, 0, none⟩ (.int .i64 v.a)).setCell ⟨w.heap.size, 1, none⟩ (.int .i64 400)).setCell ⟨w.heap.size, 2, none⟩ (.bool v.same)).setCell ⟨w.heap.size, 3, none⟩ (.int .i64 v.time)) := ((((kL9.setN (Nat.le_refl _) _).setN (Nat.le_refl _) _).setN (Nat.le_refl _) _).setN (Nat.le_refl _) _)
        have c9 : Cur w0 (((((w3.setCell ⟨w2.heap.size, 1, none⟩ (.int .i64 400)).setCell ⟨w.heap.size, 0, none⟩ (.int .i64 v.a)).setCell ⟨w.heap.size, 1, none⟩ (.int .i64 400)).setCell ⟨w.heap.size, 2, none⟩ (.bool v.same)).setCell ⟨w.heap.size, 3, none⟩ (.int .i64 v.time)) g := ((((cL9.setN hg _).setN hg _).setN hg _).setN hg _)
        refine bodyPost_ret (v := .agg #[.int .i64 v.a, .int .i64 400, .bool v.same, .int .i64 v.time]) (by simp [results, Try.results41, go_sem, r0, r1, r2, r3]) rfl ?_
        exact ⟨⟨v.a, 400, v.same, v.time⟩, rfl, HI.out, c9, k9⟩
      · obtain ⟨cL, fL⟩ := bL3.cells
        obtain ⟨cR, fR⟩ := bR3.cells
        go_wp2
        have b9 : Blk ((((w3.setCell ⟨w.heap.size, 0, none⟩ (.int .i64 v.a)).setCell ⟨w.heap.size, 1, none⟩ (.int .i64 v.b)).setCell ⟨w.heap.size, 2, none⟩ (.bool v.same)).setCell ⟨w.heap.size, 3, none⟩ (.int .i64 v.time)) w.heap.size 32 [.int .i64 v.a, .int .i64 v.b, .bool v.same, .int .i64 v.time] := ((((bR3.setAt 0 (by show 0 < 4; decide) (.int .i64 v.a)).setAt 1 (by show 1 < 4; decide) (.int .i64 v.b)).setAt 2 (by show 2 < 4; decide) (.bool v.same)).setAt 3 (by show 3 < 4; decide) (.int .i64 v.time))
        have r0 : ((((w3.setCell ⟨w.heap.size, 0, none⟩ (.int .i64 v.a)).setCell ⟨w.heap.size, 1, none⟩ (.int .i64 v.b)).setCell ⟨w.heap.size, 2, none⟩ (.bool v.same)).setCell ⟨w.heap.size, 3, none⟩ (.int .i64 v.time)).cell? ⟨w.heap.size, 0, none⟩ = some (.int .i64 v.a) := b9.cells.1 0
        have r1 : ((((w3.setCell ⟨w.heap.size, 0, none⟩ (.int .i64 v.a)).setCell ⟨w.heap.size, 1, none⟩ (.int .i64 v.b)).setCell ⟨w.heap.size, 2, none⟩ (.bool v.same)).setCell ⟨w.heap.size, 3, none⟩ (.int .i64 v.time)).cell? ⟨w.heap.size, 1, none⟩ = some (.int .i64 v.b) := b9.cells.1 1
        have r2 : ((((w3.setCell ⟨w.heap.size, 0, none⟩ (.int .i64 v.a)).setCell ⟨w.heap.size, 1, none⟩ (.int .i64 v.b)).setCell ⟨w.heap.size, 2, none⟩ (.bool v.same)).setCell ⟨w.heap.size, 3, none⟩ (.int .i64 v.time)).cell? ⟨w.heap.size, 2, none⟩ = some (.bool v.same) := b9.cells.1 2
        have r3 : ((((w3.setCell ⟨w.heap.size, 0, none⟩ (.int .i64 v.a)).setCell ⟨w.heap.size, 1, none⟩ (.int .i64 v.b)).setCell ⟨w.heap.size, 2, none⟩ (.bool v.same)).setCell ⟨w.heap.size, 3, none⟩ (.int .i64 v.time)).cell? ⟨w.heap.size, 3, none⟩ = some (.int .i64 v.time) := b9.cells.1 3
        have k9 : Kept g w ((((w3.setCell ⟨w.heap.size, 0, none⟩ (.int .i64 v.a)).setCell ⟨w.heap.size, 1, none⟩ (.int .i64 v.b)).setCell ⟨w.heap.size, 2, none⟩ (.bool v.same)).setCell ⟨w.heap.size, 3, none⟩ (.int .i64 v.time)) := ((((hk03.setN (Nat.le_refl _) _).setN (Nat.le_refl _) _).setN (Nat.le_refl _) _).setN (Nat.le_refl _) _)
        have c9 : Cur w0 ((((w3.setCell ⟨w.heap.size, 0, none⟩ (.int .i64 v.a)).setCell ⟨w.heap.size, 1, none⟩ (.int .i64 v.b)).setCell ⟨w.heap.size, 2, none⟩ (.bool v.same)).setCell ⟨w.heap.size, 3, none⟩ (.int .i64 v.time)) g := ((((hc3.setN hg _).setN hg _).setN hg _).setN hg _)
        refine bodyPost_ret (v := .agg #[.int .i64 v.a, .int .i64 v.b, .bool v.same, .int .i64 v.time]) (by simp [results, Try.results41, go_sem, r0, r1, r2, r3]) rfl ?_
        exact ⟨v, rfl, vok, c9, k9⟩

end Go.Proofs.Ytmembjjgkideeaa

namespace Go.Proofs.Ytmembjjgkideeaa
open Go.RowKit

theorem addV_len (xs : List Verdict) (x : Verdict) : (addV xs x).1.length ≤ xs.length + 1 := by
  unfold addV
  split
  · exact Nat.le_of_eq (putV_len xs x)
  · exact Nat.le_succ _
/-- a list of verdicts that was drawn -/
def LstDrawn (w0 w : World) (g m : Nat) (e : Ending) (w2 : World) : Prop := ∃ v2 xs, e = .returned v2 ∧ Bld verdictO w2 w.heap.size 32 v2 xs [] ∧ xs.length ≤ m ∧ Cur w0 w2 g ∧ Kept g w w2

set_option maxHeartbeats 1000000 in
set_option maxRecDepth 20000 in
theorem spec_l28List (w0 w : World) (g : Nat) (hc : Cur w0 w g) :
    Calls Try.prog 39 #[.pointer (some ⟨g, 0, none⟩)] w (LstDrawn w0 w g 6) := by
  have hg := hc.base.2.2
  have hB0 : Bld verdictO (w.alloc (.cells #[] 32)) w.heap.size 32 (.slice (some ⟨w.heap.size, 0, none⟩) 0 0) [] [] := Bld.lit w (Nat.le_refl _) _
  have hc0 := hc.ext ((Ext.refl w).alloc (.cells #[] 32))
  go_enter Try.func39, Try.ntmps39
  go_wp2_with fail
  refine (spec_l1Below w0 _ g 7 (by decide) hc0).mono ?_
  rintro e w2 ⟨x, rfl, hx, hc2, hk2⟩
  have hg2 := hc2.base.2.2
  obtain ⟨n0, rfl⟩ : ∃ n : Nat, x = n := ⟨x.toNat, by omega⟩
  have hB2 := hB0.kept (by omega) hk2
  have k2 := (Ext.kept (g := g) ((Ext.refl w).alloc (.cells #[] 32))).trans hk2
  clear hc hc0 hB0 hk2
  go_wp2
  go_loopw [3, 4] (fun l i wr => ∃ (xs : List Verdict) (n : Nat), i = .int .i64 n ∧ xs.length + n ≤ 6 ∧ Bld verdictO wr w.heap.size 32 l xs [] ∧ Cur w0 wr g ∧ Kept g w wr) (fun _ i _ => (intOf i).toNat)
  case atStart => exact ⟨[], n0, rfl, by simp; omega, hB2, hc2, k2⟩
  case round =>
    clear hB2 hc2 k2 hg2 hx
    obtain ⟨xs, n, rfl, hn, hB, hc, hk⟩ := hrel
    by_cases hn0 : 0 < n
    · go_wp2_with fail
      refine (spec_l28Verdict w0 _ g hc).mono ?_
      rintro e w3 ⟨v, rfl, vok, hc3, hk3⟩
      have hB3 := hB.kept (by omega) hk3
      go_wp2_with fail
      refine (spec_AddVerdictB _ xs v _ hB3.sl (by omega)).mono ?_
      rintro e w4 ⟨v4, rfl, hB4, x4⟩
      have hal := addV_len xs v
      have hs := (hk.trans hk3).1
      go_wp2
      go_roundw
      case rel => exact ⟨(addV xs v).1, n - 1, (by (have e9 : ((n - 1 : Nat) : Int) = (n : Int) - 1 := by omega); rw [e9]), by omega, hB4.lowv hs, hc3.ext x4, (hk.trans hk3).trans x4.kept⟩
      case measure => simp [intOf]; omega
    · obtain rfl : n = 0 := by omega
      go_wp2
      go_ret
      exact ⟨_, xs, rfl, hB, by omega, hc, hk⟩

set_option maxHeartbeats 1000000 in
set_option maxRecDepth 20000 in
theorem spec_l28Lists (w0 w : World) (g : Nat) (hc : Cur w0 w g) :
    Calls Try.prog 18 #[.pointer (some ⟨g, 0, none⟩)] w (LstDrawn w0 w g 7) := by
  have hg := hc.base.2.2
  have h0g := hc.base.2.1
  go_enter Try.func18, Try.ntmps18
  go_wp2_with fail
  refine (spec_l28List w0 _ g hc).mono ?_
  rintro e w2 ⟨v2, xs, rfl, hB2, hl, hc2, hk2⟩
  obtain ⟨F9, od, _, _⟩ := hB2.done
  obtain ⟨A, c, e, _⟩ := od.form
  subst e
  clear od
  go_wp2_with fail
  refine (spec_l1Once w0 _ g 14 (by decide) hc2).mono ?_
  rintro e w3 ⟨x, rfl, hc3, hk3⟩
  have hB3 := hB2.kept (by omega) hk3
  have hk03 := hk2.trans hk3
  clear hB2 hc2 hk2 hk3
  cases x with
  | false =>
    go_wp2
    go_ret
    exact ⟨_, xs, rfl, hB3, by omega, hc3, hk03⟩
  | true =>
    go_wp2_with fail
    refine (spec_l28Any w0 _ g hc3).mono ?_
    rintro e w4 ⟨v, rfl, vok, hc4, hk4⟩
    have hB4 := hB3.kept (by omega) hk4
    have hk04 := hk03.trans hk4
    have hs := hk04.1
    go_wp2_with (at_builtin; refine wpList_app1g (R := verdictO) elemVer (by decide) rfl _ _ rfl hB4 rfl w4.heap.size 1 rfl rfl (one_ver _ _ _ _) (y := v) ⟨⟨rfl, vok⟩, rfl⟩ fresh_nil (by omega) (by decide) hs ?_; intro v9 w9 hB9 hE9 hs9 hk9)
    go_ret
    exact ⟨_, xs ++ [v], rfl, hB9, by simp; omega, hc4.keep (hE9 w0 (by omega) hc4.base.1) (hk9 g (by omega)), ⟨by omega, fun b hb hne => (hk9 b (by omega)).trans (hk04.2 b hb hne)⟩⟩

end Go.Proofs.Ytmembjjgkideeaa

namespace Go.Proofs.Ytmembjjgkideeaa
open Go.RowKit

set_option maxHeartbeats 1000000 in
set_option maxRecDepth 20000 in
theorem spec_DrawSplitVerdicts (w : World) (v : Value) (bs : List Int) (h : Sl u8R w v bs) :
    Calls Try.prog 6 #[v] w fun e w2 => ∃ v1 xs, e = .returned v1 ∧ Sl verdictR w2 v1 xs ∧ xs.length ≤ 7 ∧ Ext w w2 := by
  go_enter Try.func6, Try.ntmps6
  go_wp2_with fail
  refine (spec_l1New w v bs h).mono ?_
  rintro e w1 ⟨rfl, hc1, x1⟩
  go_wp2_with fail
  refine (spec_l28Lists w w1 _ hc1).mono ?_
  rintro e w2 ⟨v1, xs, rfl, hB2, hl, hc2, hk2⟩
  have hS := hB2.sl
  have hx := hc2.base.1
  clear hB2 hc2 hk2 hc1 h
  go_wp2
  go_ret
  exact ⟨_, xs, rfl, hS, hl, hx⟩
end Go.Proofs.Ytmembjjgkideeaa
