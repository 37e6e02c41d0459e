/-
  SEVERAL SMALL TEXTS LAID TOGETHER: Wm, Cons, Tri, AppP, AppN, Swp, ConP, App1h, WmI, CloI, WmS, CoS, OptP, PartP, MustP, ConI, GrowP, PivP, OptQ, MovP.
-/
import Derived.Test.YtidchfncfcckiaaGreatMgEndClu0
import Derived.Laws.OwnMore
import Derived.Lib.SliceRun

namespace Go.Proofs.YtidchfncfcckiaaGreat
open Go.RowKit

def ent (m : List (List Int)) (i k : Nat) : Int := (m.getD i []).getD k 0
structure WM (m : List (List Int)) : Prop where
  n1 : 1 ≤ m.length
  n8 : m.length ≤ 8
  row : ∀ i, i < m.length → (m.getD i []).length = m.length
  bd : ∀ i k, i < m.length → k < m.length → -1000 ≤ ent m i k ∧ ent m i k ≤ 1000
  sym : ∀ i k, i < m.length → k < m.length → ent m i k = ent m k i
  diag : ∀ i, i < m.length → ent m i i = 0
noncomputable def wmB (m : List (List Int)) : Bool := @decide (WM m) (Classical.propDecidable _)
theorem wmB_iff {m : List (List Int)} : wmB m = true ↔ WM m := by unfold wmB; exact @decide_eq_true_iff _ (Classical.propDecidable _)
theorem wmB_no {m : List (List Int)} (h : ¬ WM m) : wmB m = false := by
  cases hb : wmB m with
  | false => rfl
  | true => exact absurd (wmB_iff.1 hb) h
theorem wmB_yes {m : List (List Int)} (h : WM m) : wmB m = true := wmB_iff.2 h
theorem ent_at {m : List (List Int)} {i k : Nat} (hi : i < m.length) (hk : k < m[i].length) : ent m i k = m[i][k] := by
  unfold ent
  rw [getD_getElem hi, getD_getElem hk]
theorem row_at {m : List (List Int)} {i : Nat} (hi : i < m.length) : m.getD i [] = m[i] := getD_getElem hi
def linkM (m : List (List Int)) (i k : Nat) : Prop := i < m.length ∧ k < m.length ∧ 0 < ent m i k
noncomputable def posC (m : List (List Int)) : List Int := if wmB m then compL m.length (linkM m) else []
theorem linkM_symm {m : List (List Int)} (h : WM m) {i k : Nat} (hl : linkM m i k) : linkM m k i := ⟨hl.2.1, hl.1, by rw [h.sym k i hl.2.1 hl.1]; exact hl.2.2⟩
/-- the first k rows are good, as the program tests them -/
def GoodTo (m : List (List Int)) (k : Nat) : Prop := ∀ i, i < k → (m.getD i []).length = m.length ∧ ent m i i = 0 ∧ ∀ j, j < i → (-1000 ≤ ent m i j ∧ ent m i j ≤ 1000) ∧ ent m j i = ent m i j
theorem GoodTo.wm {m : List (List Int)} (h : GoodTo m m.length) (h1 : 1 ≤ m.length) (h8 : m.length ≤ 8) : WM m where
  n1 := h1
  n8 := h8
  row i hi := (h i hi).1
  bd i k hi hk := by
    by_cases h9 : k < i
    · exact ((h i hi).2.2 k h9).1
    · by_cases h10 : i < k
      · have := (h k hk).2.2 i h10
        rw [this.2]; exact this.1
      · have : i = k := by omega
        subst this
        rw [(h i hi).2.1]; omega
  sym i k hi hk := by
    by_cases h9 : k < i
    · exact ((h i hi).2.2 k h9).2.symm
    · by_cases h10 : i < k
      · exact ((h k hk).2.2 i h10).2
      · have : i = k := by omega
        subst this
        rfl
  diag i hi := (h i hi).2.1
end Go.Proofs.YtidchfncfcckiaaGreat

namespace Go.Proofs.YtidchfncfcckiaaGreat
open Go.RowKit

structure Constraint where
  a : Int
  b : Int
  same : Bool
def Constraint.cells (v : Constraint) : List Value := [.int .i64 v.a, .int .i64 v.b, .bool v.same]
def Constraint.val (v : Constraint) : Value := .agg #[.int .i64 v.a, .int .i64 v.b, .bool v.same]
def Constraint.ok (v : Constraint) : Prop := I64 v.a ∧ I64 v.b
def constraintR : Rep Constraint := ⟨3, fun _ cs v => cs = v.cells ∧ v.ok, fun h => by rw [h.1]; rfl, fun _ h => h⟩
def constraintO : RepO Constraint := flatO constraintR fun _ _ _ _ h => h
theorem Constraint.eta (x y : Constraint) : x = y ↔ x.a = y.a ∧ x.b = y.b ∧ x.same = y.same := by
  cases x; cases y; simp
theorem Sl.constraint {w : World} {A : Option Addr} {n cap : Nat} {xs : List Constraint} (h : Sl constraintR w (.slice A n cap) xs) {i : Nat} (hi : i < xs.length) :
    ∃ b off, A = some ⟨b, off, none⟩ ∧ xs[i].ok ∧ w.cell? ⟨b, off + i * 3, none⟩ = some (.int .i64 xs[i].a) ∧ w.cell? ⟨b, off + i * 3 + 1, none⟩ = some (.int .i64 xs[i].b) ∧ w.cell? ⟨b, off + i * 3 + 2, none⟩ = some (.bool xs[i].same) := by
  obtain ⟨b, off, cs, rfl, ⟨rfl, hok⟩, hc⟩ := h.at_ hi
  exact ⟨b, off, rfl, hok, by simpa [constraintR, Constraint.cells] using hc 0 (by simp [constraintR]), by simpa [constraintR, Constraint.cells] using hc 1 (by simp [constraintR]), by simpa [constraintR, Constraint.cells] using hc 2 (by simp [constraintR])⟩
theorem OwnSl.constraint_set0 {w : World} {g off n cap : Nat} {xs : List Constraint} {F : List Nat} (h : OwnSl constraintO w (.slice (some ⟨g, off, none⟩) n cap) xs F) (hN : F.Nodup) {i : Nat} (hi : i < xs.length) (u : Int) (hu : I64 u) :
    OwnSl constraintO (w.setCell ⟨g, off + i * 3, none⟩ (.int .i64 u)) (.slice (some ⟨g, off, none⟩) n cap) (xs.set i { xs[i] with a := u }) F ∧ w.cell? ⟨g, off + i * 3, none⟩ = some (.int .i64 xs[i].a) ∧ w.frozen? ⟨g, off + i * 3, none⟩ = false ∧ g ∈ F := by
  obtain ⟨g', off', cap', c, F1, e, hg, _, _, _, ⟨⟨rfl, hok⟩, rfl⟩, _, hc, hf, _, hst⟩ := h.elem hN hi
  injection e with e1 e2 e3
  injection e1 with e1
  injection e1 with e1 e4 _
  subst e1; subst e4
  have h1 : constraintO.n = 3 := rfl
  rw [h1] at hc hst
  refine ⟨?_, by have q := hc 0 (by omega); exact q, hf _, hg⟩
  exact hst 0 (.int .i64 u) { xs[i] with a := u } (by omega) ⟨⟨rfl, ⟨hu, hok.2⟩⟩, rfl⟩
theorem OwnSl.constraint_set1 {w : World} {g off n cap : Nat} {xs : List Constraint} {F : List Nat} (h : OwnSl constraintO w (.slice (some ⟨g, off, none⟩) n cap) xs F) (hN : F.Nodup) {i : Nat} (hi : i < xs.length) (u : Int) (hu : I64 u) :
    OwnSl constraintO (w.setCell ⟨g, off + i * 3 + 1, none⟩ (.int .i64 u)) (.slice (some ⟨g, off, none⟩) n cap) (xs.set i { xs[i] with b := u }) F ∧ w.cell? ⟨g, off + i * 3 + 1, none⟩ = some (.int .i64 xs[i].b) ∧ w.frozen? ⟨g, off + i * 3 + 1, none⟩ = false ∧ g ∈ F := by
  obtain ⟨g', off', cap', c, F1, e, hg, _, _, _, ⟨⟨rfl, hok⟩, rfl⟩, _, hc, hf, _, hst⟩ := h.elem hN hi
  injection e with e1 e2 e3
  injection e1 with e1
  injection e1 with e1 e4 _
  subst e1; subst e4
  have h1 : constraintO.n = 3 := rfl
  rw [h1] at hc hst
  refine ⟨?_, by have q := hc 1 (by omega); exact q, hf _, hg⟩
  exact hst 1 (.int .i64 u) { xs[i] with b := u } (by omega) ⟨⟨rfl, ⟨hok.1, hu⟩⟩, rfl⟩
theorem OwnSl.constraint_set2 {w : World} {g off n cap : Nat} {xs : List Constraint} {F : List Nat} (h : OwnSl constraintO w (.slice (some ⟨g, off, none⟩) n cap) xs F) (hN : F.Nodup) {i : Nat} (hi : i < xs.length) (u : Bool)  :
    OwnSl constraintO (w.setCell ⟨g, off + i * 3 + 2, none⟩ (.bool u)) (.slice (some ⟨g, off, none⟩) n cap) (xs.set i { xs[i] with same := u }) F ∧ w.cell? ⟨g, off + i * 3 + 2, none⟩ = some (.bool xs[i].same) ∧ w.frozen? ⟨g, off + i * 3 + 2, none⟩ = false ∧ g ∈ F := by
  obtain ⟨g', off', cap', c, F1, e, hg, _, _, _, ⟨⟨rfl, hok⟩, rfl⟩, _, hc, hf, _, hst⟩ := h.elem hN hi
  injection e with e1 e2 e3
  injection e1 with e1
  injection e1 with e1 e4 _
  subst e1; subst e4
  have h1 : constraintO.n = 3 := rfl
  rw [h1] at hc hst
  refine ⟨?_, by have q := hc 2 (by omega); exact q, hf _, hg⟩
  exact hst 2 (.bool u) { xs[i] with same := u } (by omega) ⟨⟨rfl, ⟨hok.1, hok.2⟩⟩, rfl⟩

set_option maxHeartbeats 400000 in
theorem eqConstraint_c (x y : Constraint) (w : World) :
    Calls Tryz.prog 75 #[.agg #[.int .i64 x.a, .int .i64 x.b, .bool x.same], .agg #[.int .i64 y.a, .int .i64 y.b, .bool y.same]] w fun e w2 => e = .returned (.bool (eqB x y)) ∧ Ext w w2 := by
  by_cases h0 : x.a = y.a
  · have b0 : (x.a != y.a) = false := by simp [h0]
    have H0 := hid h0
    clear h0
    by_cases h1 : x.b = y.b
    · have b1 : (x.b != y.b) = false := by simp [h1]
      have H1 := hid h1
      clear h1
      by_cases h2 : x.same = y.same
      · have b2 : (x.same == y.same) = true := by simp [h2]
        have H2 := hid h2
        clear h2
        go_enter Tryz.func75, Tryz.ntmps75
        go_wp2
        go_ret
        exact ⟨ret_bool (eqB_true ((Constraint.eta x y).2 ⟨H0.out, H1.out, H2.out⟩)).symm, (by repeat (first | with_reducible exact Ext.refl _ | with_reducible assumption | with_reducible refine Ext.drew ?_ | with_reducible refine Ext.alloc ?_ _ | with_reducible refine Ext.trans ?_ (by with_reducible assumption)))⟩
      · have b2 : (x.same == y.same) = false := by simp [h2]
        have H2 := hid h2
        clear h2
        go_enter Tryz.func75, Tryz.ntmps75
        go_wp2
        go_ret
        exact ⟨ret_bool (eqB_false fun e => H2.out (by rw [e])).symm, (by repeat (first | with_reducible exact Ext.refl _ | with_reducible assumption | with_reducible refine Ext.drew ?_ | with_reducible refine Ext.alloc ?_ _ | with_reducible refine Ext.trans ?_ (by with_reducible assumption)))⟩
    · have b1 : (x.b != y.b) = true := by simp [h1]
      have H1 := hid h1
      clear h1
      go_enter Tryz.func75, Tryz.ntmps75
      go_wp2
      go_ret
      exact ⟨ret_bool (eqB_false fun e => H1.out (by rw [e])).symm, (by repeat (first | with_reducible exact Ext.refl _ | with_reducible assumption | with_reducible refine Ext.drew ?_ | with_reducible refine Ext.alloc ?_ _ | with_reducible refine Ext.trans ?_ (by with_reducible assumption)))⟩
  · have b0 : (x.a != y.a) = true := by simp [h0]
    have H0 := hid h0
    clear h0
    go_enter Tryz.func75, Tryz.ntmps75
    go_wp2
    go_ret
    exact ⟨ret_bool (eqB_false fun e => H0.out (by rw [e])).symm, (by repeat (first | with_reducible exact Ext.refl _ | with_reducible assumption | with_reducible refine Ext.drew ?_ | with_reducible refine Ext.alloc ?_ _ | with_reducible refine Ext.trans ?_ (by with_reducible assumption)))⟩

set_option maxHeartbeats 400000 in
theorem eqConstraintS_c (v u : Value) (xs ys : List Constraint) (w : World) (h : Sl constraintR w v xs) (k : Sl constraintR w u ys) :
    Calls Tryz.prog 24 #[v, u] w fun e w2 => e = .returned (.bool (eqB xs ys)) ∧ Ext w w2 := by
  obtain ⟨A, cap, rfl, hm⟩ := h.form
  obtain ⟨B, cap2, rfl, hm2⟩ := k.form
  by_cases hl : xs.length = ys.length
  · have hl' : ((xs.length : Int) != (ys.length : Int)) = false := by simp [hl]
    have HL := hid hl
    clear hl
    go_enter Tryz.func24, Tryz.ntmps24
    go_wp2
    go_loopw [5] (fun i wr => ∃ k2 : Nat, k2 ≤ xs.length ∧ i = .int .i64 k2 ∧ xs.take k2 = ys.take k2 ∧ Ext w wr) (fun i _ => xs.length - (intOf i).toNat)
    case atStart => exact ⟨0, Nat.zero_le _, rfl, by simp, Ext.refl _⟩
    case round =>
      obtain ⟨k2, hk, rfl, he, hx⟩ := hrel
      have HE := hid he
      clear he
      by_cases hlt : k2 < xs.length
      · have hlt2 : k2 < ys.length := by have := HL.out; omega
        obtain ⟨b, off, rfl, hok, hc0, hc1, hc2⟩ := (h.mono hx).constraint hlt
        obtain ⟨b2, off2, rfl, hok2, hd0, hd1, hd2⟩ := (k.mono hx).constraint hlt2
        have hcz0 : ∀ z : ExtOf wr, z.1.cell? ⟨b, off + k2 * 3, none⟩ = _ := fun z => z.2.cell hc0
        have hdz0 : ∀ z : ExtOf wr, z.1.cell? ⟨b2, off2 + k2 * 3, none⟩ = _ := fun z => z.2.cell hd0
        have hcz1 : ∀ z : ExtOf wr, z.1.cell? ⟨b, off + k2 * 3 + 1, none⟩ = _ := fun z => z.2.cell hc1
        have hdz1 : ∀ z : ExtOf wr, z.1.cell? ⟨b2, off2 + k2 * 3 + 1, none⟩ = _ := fun z => z.2.cell hd1
        have hcz2 : ∀ z : ExtOf wr, z.1.cell? ⟨b, off + k2 * 3 + 2, none⟩ = _ := fun z => z.2.cell hc2
        have hdz2 : ∀ z : ExtOf wr, z.1.cell? ⟨b2, off2 + k2 * 3 + 2, none⟩ = _ := fun z => z.2.cell hd2
        by_cases h0 : xs[k2] = ys[k2]
        · have H0 := hid h0
          clear h0
          go_wp2_with fail
          refine wp_region_ext (by kernel_rfl) (by kernel_rfl) ?_
          repeat (go_big_quiet_step (((go_at_call 75; exact quiet_ext (eqConstraint_c xs[k2] ys[k2] _)))))
          refine wpQuiet_nil ?_
          rintro w1 ⟨⟨_, x1⟩, rfl⟩
          rw [eqB_true H0.out]
          go_wp2
          go_roundw
          case rel => exact ⟨k2 + 1, by omega, by go_num, take_snoc_eq hlt hlt2 H0.out HE.out, hx.trans x1⟩
          case measure => simp [intOf]; omega
        · have H0 := hid h0
          clear h0
          go_wp2_with fail
          refine wp_region_ext (by kernel_rfl) (by kernel_rfl) ?_
          repeat (go_big_quiet_step (((go_at_call 75; exact quiet_ext (eqConstraint_c xs[k2] ys[k2] _)))))
          refine wpQuiet_nil ?_
          rintro w1 ⟨⟨_, x1⟩, rfl⟩
          rw [eqB_false H0.out]
          go_wp2
          go_ret
          exact ⟨ret_bool (eqB_false (ne_of_at hlt hlt2 H0.out)).symm, hx.trans x1⟩
      · go_wp2
        go_ret
        exact ⟨ret_bool (eqB_true (eq_of_take hlt HL.out HE.out)).symm, hx⟩
  · have hl' : ((xs.length : Int) != (ys.length : Int)) = true := by simp; omega
    go_enter Tryz.func24, Tryz.ntmps24
    go_wp2
    go_ret
    exact ⟨ret_bool (eqB_false fun e => hl (by rw [e])).symm, Ext.refl _⟩

def constraintMk : Mk Constraint := ⟨fun _ => 3, fun k _ y => y = ⟨k, k + 1, ((k + 2) % 3 == 0)⟩⟩
theorem constraintMk_sum (xs : List Constraint) : constraintMk.sum xs = 3 * xs.length := by
  unfold Mk.sum constraintMk
  induction xs with
  | nil => rfl
  | cons x xs ih => simp only [List.map_cons, List.sum_cons, List.length_cons, ih]; omega
theorem cntConstraintS_le (xs : List Constraint) : (lstMk constraintMk).cnt xs ≤ 3 * xs.length := Nat.le_of_eq (constraintMk_sum xs)

set_option maxHeartbeats 400000 in
set_option maxRecDepth 20000 in
theorem markConstraintS_c (v : Value) (xs : List Constraint) (F : List Nat) (k : Int) (w : World) (h : OwnSl constraintO w v xs F) (hN : F.Nodup) (h0 : 0 ≤ k) (hb : k + (lstMk constraintMk).cnt xs ≤ 1152921504606846976) :
    Calls Tryz.prog 26 #[v, .int .i64 k] w fun e w2 => ∃ ys, e = .returned (.int .i64 (k + ((lstMk constraintMk).cnt xs : Nat))) ∧ OwnSl constraintO w2 v ys F ∧ (lstMk constraintMk).is k xs ys ∧ Chg F w w2 := by
  have hcn : (lstMk constraintMk).cnt xs = 3 * xs.length := constraintMk_sum xs
  rw [hcn] at hb ⊢
  clear hcn
  obtain ⟨A, cap, rfl, hm⟩ := h.form
  go_enter Tryz.func26, Tryz.ntmps26
  go_wp2
  go_loopw [1, 5] (fun l i wr => ∃ (j : Nat) (ys : List Constraint), j ≤ xs.length ∧ i = .int .i64 j ∧ l = .int .i64 (k + 3 * (j : Int)) ∧ OwnSl constraintO wr (.slice A xs.length cap) ys F ∧ Part constraintMk k xs ys j ∧ Chg F w wr) (fun _ i _ => xs.length - (intOf i).toNat)
  case atStart => exact ⟨0, xs, Nat.zero_le _, rfl, by simp, h, .zero _ _ _, .refl _ _⟩
  case round =>
    obtain ⟨j, ys, hj, rfl, rfl, ho, hp, hc⟩ := hrel
    by_cases hlt : j < xs.length
    · obtain ⟨hy, _⟩ := hp.at_ hlt
      obtain ⟨g, off, cap2, _, _, e, hg, _⟩ := ho.elem hN hy
      injection e with e1 e2 e3
      subst e1
      clear e2 e3
      have s0 := ho.constraint_set0 hN hy (k + 3 * (j : Int)) (by unfold I64; omega)
      obtain ⟨p0, q0, r0, hg0⟩ := s0
      have s1 := p0.constraint_set1 hN (by rw [List.length_set]; exact hy) (k + 3 * (j : Int) + 1) (by unfold I64; omega)
      obtain ⟨p1, q1, r1, hg1⟩ := s1
      have s2 := p1.constraint_set2 hN (by rw [List.length_set, List.length_set]; exact hy) (((k + 3 * (j : Int) + 1 + 1) % 3 == 0))
      obtain ⟨p2, q2, r2, hg2⟩ := s2
      have HS := hid p2
      clear p0 p1 p2
      go_wp2
      go_roundw
      case rel =>
        refine ⟨j + 1, ys.set j ⟨k + 3 * (j : Int), k + 3 * (j : Int) + 1, ((k + 3 * (j : Int) + 2) % 3 == 0)⟩, by omega, by go_num, by go_num, ?_, hp.step hlt ?_, ((hc.setCell hg _).setCell hg _).setCell hg _⟩
        · have := HS.out
          simpa [List.set_set, List.getElem_set_self, Int.add_assoc] using this
        · show _ = _
          rw [constraintMk_sum, List.length_take, Nat.min_eq_left (by omega)]
          simp
      case measure => simp [intOf]; omega
    · go_wp2
      go_ret
      exact ⟨ys, ret_int (by omega), ho, hp.all hlt, hc⟩

end Go.Proofs.YtidchfncfcckiaaGreat

namespace Go.Proofs.YtidchfncfcckiaaGreat
open Go.RowKit

structure Triangle where
  a : Int
  b : Int
  c : Int
  weight : Int
def Triangle.cells (v : Triangle) : List Value := [.int .i64 v.a, .int .i64 v.b, .int .i64 v.c, .int .i64 v.weight]
def Triangle.val (v : Triangle) : Value := .agg #[.int .i64 v.a, .int .i64 v.b, .int .i64 v.c, .int .i64 v.weight]
def Triangle.ok (v : Triangle) : Prop := I64 v.a ∧ I64 v.b ∧ I64 v.c ∧ I64 v.weight
def triangleR : Rep Triangle := ⟨4, fun _ cs v => cs = v.cells ∧ v.ok, fun h => by rw [h.1]; rfl, fun _ h => h⟩
def triangleO : RepO Triangle := flatO triangleR fun _ _ _ _ h => h
theorem Triangle.eta (x y : Triangle) : x = y ↔ x.a = y.a ∧ x.b = y.b ∧ x.c = y.c ∧ x.weight = y.weight := by
  cases x; cases y; simp
theorem Sl.triangle {w : World} {A : Option Addr} {n cap : Nat} {xs : List Triangle} (h : Sl triangleR w (.slice A n cap) xs) {i : Nat} (hi : i < xs.length) :
    ∃ b off, A = some ⟨b, off, none⟩ ∧ xs[i].ok ∧ w.cell? ⟨b, off + i * 4, none⟩ = some (.int .i64 xs[i].a) ∧ w.cell? ⟨b, off + i * 4 + 1, none⟩ = some (.int .i64 xs[i].b) ∧ w.cell? ⟨b, off + i * 4 + 2, none⟩ = some (.int .i64 xs[i].c) ∧ w.cell? ⟨b, off + i * 4 + 3, none⟩ = some (.int .i64 xs[i].weight) := by
  obtain ⟨b, off, cs, rfl, ⟨rfl, hok⟩, hc⟩ := h.at_ hi
  exact ⟨b, off, rfl, hok, by simpa [triangleR, Triangle.cells] using hc 0 (by simp [triangleR]), by simpa [triangleR, Triangle.cells] using hc 1 (by simp [triangleR]), by simpa [triangleR, Triangle.cells] using hc 2 (by simp [triangleR]), by simpa [triangleR, Triangle.cells] using hc 3 (by simp [triangleR])⟩
theorem OwnSl.triangle_set0 {w : World} {g off n cap : Nat} {xs : List Triangle} {F : List Nat} (h : OwnSl triangleO w (.slice (some ⟨g, off, none⟩) n cap) xs F) (hN : F.Nodup) {i : Nat} (hi : i < xs.length) (u : Int) (hu : I64 u) :
    OwnSl triangleO (w.setCell ⟨g, off + i * 4, none⟩ (.int .i64 u)) (.slice (some ⟨g, off, none⟩) n cap) (xs.set i { xs[i] with a := u }) F ∧ w.cell? ⟨g, off + i * 4, none⟩ = some (.int .i64 xs[i].a) ∧ w.frozen? ⟨g, off + i * 4, none⟩ = false ∧ g ∈ F := by
  obtain ⟨g', off', cap', c, F1, e, hg, _, _, _, ⟨⟨rfl, hok⟩, rfl⟩, _, hc, hf, _, hst⟩ := h.elem hN hi
  injection e with e1 e2 e3
  injection e1 with e1
  injection e1 with e1 e4 _
  subst e1; subst e4
  have h1 : triangleO.n = 4 := rfl
  rw [h1] at hc hst
  refine ⟨?_, by have q := hc 0 (by omega); exact q, hf _, hg⟩
  exact hst 0 (.int .i64 u) { xs[i] with a := u } (by omega) ⟨⟨rfl, ⟨hu, hok.2.1, hok.2.2.1, hok.2.2.2⟩⟩, rfl⟩
theorem OwnSl.triangle_set1 {w : World} {g off n cap : Nat} {xs : List Triangle} {F : List Nat} (h : OwnSl triangleO w (.slice (some ⟨g, off, none⟩) n cap) xs F) (hN : F.Nodup) {i : Nat} (hi : i < xs.length) (u : Int) (hu : I64 u) :
    OwnSl triangleO (w.setCell ⟨g, off + i * 4 + 1, none⟩ (.int .i64 u)) (.slice (some ⟨g, off, none⟩) n cap) (xs.set i { xs[i] with b := u }) F ∧ w.cell? ⟨g, off + i * 4 + 1, none⟩ = some (.int .i64 xs[i].b) ∧ w.frozen? ⟨g, off + i * 4 + 1, none⟩ = false ∧ g ∈ F := by
  obtain ⟨g', off', cap', c, F1, e, hg, _, _, _, ⟨⟨rfl, hok⟩, rfl⟩, _, hc, hf, _, hst⟩ := h.elem hN hi
  injection e with e1 e2 e3
  injection e1 with e1
  injection e1 with e1 e4 _
  subst e1; subst e4
  have h1 : triangleO.n = 4 := rfl
  rw [h1] at hc hst
  refine ⟨?_, by have q := hc 1 (by omega); exact q, hf _, hg⟩
  exact hst 1 (.int .i64 u) { xs[i] with b := u } (by omega) ⟨⟨rfl, ⟨hok.1, hu, hok.2.2.1, hok.2.2.2⟩⟩, rfl⟩
theorem OwnSl.triangle_set2 {w : World} {g off n cap : Nat} {xs : List Triangle} {F : List Nat} (h : OwnSl triangleO w (.slice (some ⟨g, off, none⟩) n cap) xs F) (hN : F.Nodup) {i : Nat} (hi : i < xs.length) (u : Int) (hu : I64 u) :
    OwnSl triangleO (w.setCell ⟨g, off + i * 4 + 2, none⟩ (.int .i64 u)) (.slice (some ⟨g, off, none⟩) n cap) (xs.set i { xs[i] with c := u }) F ∧ w.cell? ⟨g, off + i * 4 + 2, none⟩ = some (.int .i64 xs[i].c) ∧ w.frozen? ⟨g, off + i * 4 + 2, none⟩ = false ∧ g ∈ F := by
  obtain ⟨g', off', cap', c, F1, e, hg, _, _, _, ⟨⟨rfl, hok⟩, rfl⟩, _, hc, hf, _, hst⟩ := h.elem hN hi
  injection e with e1 e2 e3
  injection e1 with e1
  injection e1 with e1 e4 _
  subst e1; subst e4
  have h1 : triangleO.n = 4 := rfl
  rw [h1] at hc hst
  refine ⟨?_, by have q := hc 2 (by omega); exact q, hf _, hg⟩
  exact hst 2 (.int .i64 u) { xs[i] with c := u } (by omega) ⟨⟨rfl, ⟨hok.1, hok.2.1, hu, hok.2.2.2⟩⟩, rfl⟩
theorem OwnSl.triangle_set3 {w : World} {g off n cap : Nat} {xs : List Triangle} {F : List Nat} (h : OwnSl triangleO w (.slice (some ⟨g, off, none⟩) n cap) xs F) (hN : F.Nodup) {i : Nat} (hi : i < xs.length) (u : Int) (hu : I64 u) :
    OwnSl triangleO (w.setCell ⟨g, off + i * 4 + 3, none⟩ (.int .i64 u)) (.slice (some ⟨g, off, none⟩) n cap) (xs.set i { xs[i] with weight := u }) F ∧ w.cell? ⟨g, off + i * 4 + 3, none⟩ = some (.int .i64 xs[i].weight) ∧ w.frozen? ⟨g, off + i * 4 + 3, none⟩ = false ∧ g ∈ F := by
  obtain ⟨g', off', cap', c, F1, e, hg, _, _, _, ⟨⟨rfl, hok⟩, rfl⟩, _, hc, hf, _, hst⟩ := h.elem hN hi
  injection e with e1 e2 e3
  injection e1 with e1
  injection e1 with e1 e4 _
  subst e1; subst e4
  have h1 : triangleO.n = 4 := rfl
  rw [h1] at hc hst
  refine ⟨?_, by have q := hc 3 (by omega); exact q, hf _, hg⟩
  exact hst 3 (.int .i64 u) { xs[i] with weight := u } (by omega) ⟨⟨rfl, ⟨hok.1, hok.2.1, hok.2.2.1, hu⟩⟩, rfl⟩

def triangleMk : Mk Triangle := ⟨fun _ => 4, fun k _ y => y = ⟨k, k + 1, k + 2, k + 3⟩⟩
theorem triangleMk_sum (xs : List Triangle) : triangleMk.sum xs = 4 * xs.length := by
  unfold Mk.sum triangleMk
  induction xs with
  | nil => rfl
  | cons x xs ih => simp only [List.map_cons, List.sum_cons, List.length_cons, ih]; omega
theorem cntTriangleS_le (xs : List Triangle) : (lstMk triangleMk).cnt xs ≤ 4 * xs.length := Nat.le_of_eq (triangleMk_sum xs)

end Go.Proofs.YtidchfncfcckiaaGreat

namespace Go.Proofs.YtidchfncfcckiaaGreat
open Go.RowKit

/-- elements known by their cells: p -/
def atP {α : Type} (R : Rep α) (p : List Value → α → Prop) : RepO α :=
  { n := R.n
    rd := fun _ cs x => p cs x ∧ cs.length = R.n
    len := fun h => h.2
    mono := fun _ h => h
    own := fun _ cs x F => (p cs x ∧ cs.length = R.n) ∧ F = []
    own_rd := fun h => h.1
    own_lt := fun h b hb => by rw [h.2] at hb; cases hb
    own_keep := fun _ h => h }
theorem Sl.of_atP {α : Type} {R : Rep α} {p : List Value → α → Prop} {w : World} {v : Value} {xs : List α} (h : Sl (atP R p).toRep w v xs) (e : ∀ cs x, p cs x → R.rd w cs x) : Sl R w v xs := by
  obtain ⟨A, cap, rfl, hm, hi⟩ := h
  refine ⟨A, cap, rfl, hm, fun i h => ?_⟩
  obtain ⟨b, off, cs, rfl, hr, hc⟩ := hi i h
  exact ⟨b, off, cs, rfl, e _ _ hr.1, hc⟩
theorem OwnCells.toP {α : Type} {R : Rep α} {p : List Value → α → Prop} {w0 w w2 : World} (hp : ∀ cs x, R.rd w0 cs x → p cs x) : ∀ {xs : List α} {cs : List Value} {F : List Nat}, OwnCells (atO R w0) w cs xs F → OwnCells (atP R p) w2 cs xs F
  | [], _, _, h => h
  | _ :: _, _, _, ⟨c, d, F1, F2, h1, h2, h3, h4⟩ => ⟨c, d, F1, F2, h1, h2, ⟨⟨hp _ _ h3.1, R.len h3.1⟩, h3.2⟩, OwnCells.toP hp h4⟩
theorem OwnCells.pMono {α : Type} {R : Rep α} {p q : List Value → α → Prop} {w w2 : World} (hp : ∀ cs x, p cs x → q cs x) : ∀ {xs : List α} {cs : List Value} {F : List Nat}, OwnCells (atP R p) w cs xs F → OwnCells (atP R q) w2 cs xs F
  | [], _, _, h => h
  | _ :: _, _, _, ⟨c, d, F1, F2, h1, h2, h3, h4⟩ => ⟨c, d, F1, F2, h1, h2, ⟨⟨hp _ _ h3.1.1, h3.1.2⟩, h3.2⟩, OwnCells.pMono hp h4⟩
theorem Bld.moveP {α : Type} {R : Rep α} {p q : List Value → α → Prop} {w w2 : World} {base : Nat} {e : TypeId} {v : Value} {xs : List α} (h : Bld (atP R p) w base e v xs []) (hk : ∀ b, v.ownBlock = some b → w2.heap[b]? = w.heap[b]?) (hp : ∀ cs x, p cs x → q cs x) : Bld (atP R q) w2 base e v xs [] := by
  obtain ⟨cs, h1, h2, h3, h4, h5⟩ := h
  refine ⟨cs, ⟨h1.1, ?_⟩, h2.pMono hp, h3, h4, h5⟩
  rcases h1.2 with h | ⟨g', cap, cur, rfl, hb, hh, hr⟩
  · exact .inl h
  · exact .inr ⟨g', cap, cur, rfl, hb, (hk g' rfl).trans hh, hr⟩
theorem Bld.empP {α : Type} {R : RepO α} {W : World} {base g : Nat} {e : TypeId} (hb : base ≤ g) (h : W.heap[g]? = some (.cells #[] e (0, 0))) : Bld R W base e (.slice (some ⟨g, 0, none⟩) 0 0) ([] : List α) [] :=
  ⟨[], ⟨by simp, .inr ⟨g, 0, #[], rfl, hb, h, Nat.le_refl _, Nat.zero_le _, by simp, by simp⟩⟩, .nil, fun _ _ h => (by cases h), List.nodup_nil, fun _ h => by cases h⟩
/-- what is known of the memory behind an append -/
structure Aft (w w' : World) (v v' : Value) : Prop where
  keep : ∀ b, b < w.heap.size → v.ownBlock ≠ some b → w'.heap[b]? = w.heap[b]?
  size : w.heap.size ≤ w'.heap.size
  own : ∀ b, v'.ownBlock = some b → v.ownBlock = some b ∨ w.heap.size ≤ b
/-- an append of a slice's cells -/
theorem step_appP {P : Program} {α : Type} {R : Rep α} {p : List Value → α → Prop} {ops : Array Oper} {o : Oper} {a : Act} {w : World} {K : Act → World → Prop} {Q : Exit → Act → World → Prop} {Z : Prop} {t e : TypeId} {bytes : Nat} (hsz : 0 < R.n) (E : ElemT P t e R.n bytes) (hby : bytes ≤ 128)
    (hgd : o.guard = none) (s x : Operand) (ho : o.op = .call { callee := .builtin .append, args := #[s, x], argTypes := #[t, t] })
    {base : Nat} {v : Value} {xs ys : List α} (hb : Bld (atP R p) w base e v xs []) (hs : a.eval s = v) {A : Option Addr} {n k : Nat} (hx : a.eval x = .slice A n k) {news : List Value} (hnews : OwnCells (atP R p) w news ys []) (hn : n = ys.length)
    (hc : 0 < n → ∃ ad, A = some ad ∧ ∀ j u, news[j]? = some u → w.cell? (ad.add j) = some u) (h1 : ∀ u ∈ news, u.oneCell' = true)
    (hbytes : xs.length + n ≤ 1099511627776) (hbase : base ≤ w.heap.size) {w0 : World} (h0 : w0.heap.size ≤ base) (hx0 : Ext w0 w)
    (h : ∀ v' w', Bld (atP R p) w' base e v' (xs ++ ys) [] → Ext w0 w' → Aft w w' v v' → K (a.put o.dst v') w') :
    if Region.wanted o (yielded ops a.tmps) = true then Oper.wp P o a w K Q else Z := by
  have hw : Region.wanted o (yielded ops a.tmps) = true := by simp [Region.wanted, hgd]
  rw [if_pos hw]
  obtain ⟨ht, i, z, hi, hz, hsize, hby2, hzs⟩ := E
  have hlb := hb.lt
  have hl : news.length = n * R.n := by rw [hn]; exact hnews.length
  obtain ⟨cs, b1, b2, b3, b4, b5⟩ := hb
  by_cases hm : 0 < n
  · obtain ⟨ad, rfl, hcc⟩ := hc hm
    refine wp_append_lies w s x t ho base e i z R.n bytes ht hi hz hsize hby2 hzs hsz v xs.length cs hs b1 ad n k news hx hl hcc h1 hm (by unfold maxLen; omega)
      (Nat.le_trans (Nat.mul_le_mul (show xs.length + n ≤ 1099511627776 by omega) hby) (by decide)) hbase w.heap.size rfl ?_
    intro g' cap w' hown hgr hat _
    refine h _ _ ⟨cs ++ news, by rw [List.length_append, ← hn]; exact hown, ?_, fun _ _ hm => (by cases hm), List.nodup_nil, fun _ hm => by cases hm⟩ (hx0.grown hgr fun g hg => Nat.le_trans h0 (hlb.2 g hg).2) ⟨fun b hb2 hne => hgr.block b hb2 (fun e => hne e.symm), hgr.size, fun b hb => ?_⟩
    · have := OwnCells.append (b2.keep (w2 := w') fun b hb => by cases hb) (hnews.keep (w2 := w') fun b hb => by cases hb)
      simpa using this
    · injection hb with hb
      subst hb
      rcases hat with hat | hat
      · exact .inl hat
      · exact .inr (by rw [hat]; exact Nat.le_refl _)
  · have hn0 : n = 0 := by omega
    subst hn0
    have hys : ys = [] := List.eq_nil_of_length_eq_zero hn.symm
    subst hys
    have hr : (Builtin.append_ #[t, t] o.type #[v, .slice A 0 k]).run P w = .ok v w := by
      rcases b1.2 with ⟨rfl, _⟩ | ⟨g, cap, cur, rfl, _, _, hnc, _⟩
      · cases A <;> simp [Builtin.append_, run_underlying ht, sizeOf, typeInfo, hi, Builtin.lenOf, Builtin.firstCells, storeCells, loadCells, loadCellsFrom]
      · cases A <;> simp [Builtin.append_, run_underlying ht, sizeOf, typeInfo, hi, Builtin.lenOf, Builtin.firstCells, hnc, storeCells, loadCells, loadCellsFrom]
    unfold Oper.wp execOp
    simp only [ho, resolve, invoke, builtin, Sem.run_bind, Sem.run_pure, Result.andThen_ok, List.map_toArray, List.map_cons, List.map_nil, hs, hx, hr]
    exact h v w ⟨cs, by rw [List.append_nil]; exact b1, by rw [List.append_nil]; exact b2, b3, b4, b5⟩ hx0 ⟨fun _ _ _ => rfl, Nat.le_refl _, fun _ hb => .inl hb⟩
/-- of a slice that reads in w1 -/
theorem step_appPS {P : Program} {α : Type} {R : Rep α} {p : List Value → α → Prop} {ops : Array Oper} {o : Oper} {a : Act} {w : World} {K : Act → World → Prop} {Q : Exit → Act → World → Prop} {Z : Prop} {t e : TypeId} {bytes : Nat} (hsz : 0 < R.n) (E : ElemT P t e R.n bytes) (hby : bytes ≤ 128)
    (hone : ∀ (w : World) cs x, R.rd w cs x → ∀ u ∈ cs, u.oneCell' = true)
    (hgd : o.guard = none) (s x : Operand) (ho : o.op = .call { callee := .builtin .append, args := #[s, x], argTypes := #[t, t] })
    {base : Nat} {v : Value} {xs ys : List α} (hb : Bld (atP R p) w base e v xs []) (hs : a.eval s = v) {A : Option Addr} {n k : Nat} (hx : a.eval x = .slice A n k) {w1 : World} (hy : Sl R w1 (.slice A n k) ys) (hxw : Ext w1 w) (hp : ∀ cs x, R.rd w1 cs x → p cs x)
    (hbytes : xs.length + n ≤ 1099511627776) (hbase : base ≤ w.heap.size) {w0 : World} (h0 : w0.heap.size ≤ base) (hx0 : Ext w0 w)
    (h : ∀ v' w', Bld (atP R p) w' base e v' (xs ++ ys) [] → Ext w0 w' → Aft w w' v v' → K (a.put o.dst v') w') :
    if Region.wanted o (yielded ops a.tmps) = true then Oper.wp P o a w K Q else Z := by
  obtain ⟨news, k1, k2, k3⟩ := hy.cells_
  have one : ∀ {xs : List α} {cs : List Value} {F : List Nat}, OwnCells (atO R w1) w1 cs xs F → ∀ u ∈ cs, u.oneCell' = true := by
    intro xs
    induction xs with
    | nil => intro cs F h u hu; rw [h.1] at hu; cases hu
    | cons x xs ih =>
      rintro cs F ⟨c, d, F1, F2, rfl, _, ⟨h2, _⟩, h4⟩ u hu
      rcases List.mem_append.1 hu with hu | hu
      · exact hone w1 c x h2 u hu
      · exact ih h4 u hu
  exact step_appP hsz E hby hgd s x ho hb hs hx (k1.toP hp) hy.cap_.1 (fun hp => by
    obtain ⟨ad, e1, e2⟩ := k3 hp
    exact ⟨ad, e1, fun j u hu => e2 w hxw j u hu⟩) (one k1) hbytes hbase h0 hx0 h
/-- of one element, laid in a block -/
theorem step_appP1 {P : Program} {α : Type} {R : Rep α} {p : List Value → α → Prop} {ops : Array Oper} {o : Oper} {a : Act} {w : World} {K : Act → World → Prop} {Q : Exit → Act → World → Prop} {Z : Prop} {t e : TypeId} {bytes : Nat} (hsz : 0 < R.n) (E : ElemT P t e R.n bytes) (hby : bytes ≤ 128)
    (hgd : o.guard = none) (s x : Operand) (ho : o.op = .call { callee := .builtin .append, args := #[s, x], argTypes := #[t, t] })
    {base : Nat} {v : Value} {xs : List α} (hb : Bld (atP R p) w base e v xs []) (hs : a.eval s = v) {c : Array Value} {T : TypeId} {fr : Nat × Nat} (g k : Nat) (hx : a.eval x = .slice (some ⟨g, 0, none⟩) 1 k) (hg : w.heap[g]? = some (.cells c T fr))
    (h1 : ∀ u ∈ c.toList, u.oneCell' = true) {y : α} (hy : p c.toList y) (hyn : c.toList.length = R.n)
    (hbytes : xs.length + 1 ≤ 1099511627776) (hbase : base ≤ w.heap.size) {w0 : World} (h0 : w0.heap.size ≤ base) (hx0 : Ext w0 w)
    (h : ∀ v' w', Bld (atP R p) w' base e v' (xs ++ [y]) [] → Ext w0 w' → Aft w w' v v' → K (a.put o.dst v') w') :
    if Region.wanted o (yielded ops a.tmps) = true then Oper.wp P o a w K Q else Z :=
  step_appP hsz E hby hgd s x ho hb hs hx (news := c.toList) (ys := [y]) (OwnCells.one (R := atP R p) ⟨⟨hy, hyn⟩, rfl⟩) rfl (fun _ => ⟨_, rfl, World.news_of_block hg⟩) h1 hbytes hbase h0 hx0 h
theorem heap_new {w : World} {g : Nat} {c : Array Value} {e : TypeId} (h : g = w.heap.size) : (w.alloc (.cells c e)).heap[g]? = some (.cells c e (0, 0)) := by
  subst h; exact heap_alloc_new w _
theorem heap_old {w : World} {g : Nat} {o : Obj} {r : Option Obj} (h : g < w.heap.size) (k : w.heap[g]? = r) : (w.alloc o).heap[g]? = r :=
  (((Ext.refl w).alloc o).block h).trans k
theorem heap_drew {w : World} {g : Nat} {r : Option Obj} (h : w.heap[g]? = r) : w.drew.heap[g]? = r := h
theorem own_ne {g b : Nat} (h : g ≠ b) : (Value.slice (some ⟨g, 0, none⟩) 0 0).ownBlock ≠ some b := fun e => by
  injection e with e
  exact h e
theorem Aft.own0 {w w' : World} {g n k : Nat} {v' : Value} (h : Aft w w' (.slice (some ⟨g, 0, none⟩) n k) v') : ∀ b, v'.ownBlock = some b → g = b ∨ w.heap.size ≤ b := fun b hb => by
  rcases h.own b hb with e | e
  · injection e with e
    exact .inl e
  · exact .inr e
/-- 's[k:]' -/
theorem Sl.tail1 {α : Type} {R : Rep α} (hR : R.n = 1) {w : World} {b off n cap : Nat} {xs : List α} (h : Sl R w (.slice (some ⟨b, off, none⟩) n cap) xs) (k : Nat) (hk : k ≤ xs.length) :
    ∃ A2 : Option Addr, (if cap = k then (some ⟨b, off, none⟩ : Option Addr) else some ⟨b, off + k, none⟩) = A2 ∧ Hid (Sl R w (.slice A2 (xs.length - k) (cap - k)) (xs.drop k)) := by
  have hn := h.cap_
  by_cases hc : cap = k
  · refine ⟨_, rfl, ?_⟩
    rw [if_pos hc, show xs.drop k = [] from List.drop_of_length_le (by omega), show xs.length - k = 0 by omega]
    exact ⟨_, _, rfl, ⟨Nat.zero_le _, by unfold maxLen; omega⟩, fun i hi => absurd hi (Nat.not_lt_zero _)⟩
  · refine ⟨_, rfl, ?_⟩
    rw [if_neg hc]
    obtain ⟨A, cap', he, hm, hi⟩ := h
    injection he with e1 e2 e3
    subst e1; subst e2; subst e3
    refine ⟨_, _, by rw [List.length_drop], ⟨by rw [List.length_drop]; omega, by omega⟩, fun i hlt => ?_⟩
    rw [List.length_drop] at hlt
    obtain ⟨b2, off2, cs, e, hr, hc2⟩ := hi (k + i) (by omega)
    injection e with e
    injection e with e4 e5 _
    subst e4; subst e5
    refine ⟨b, off + k, cs, rfl, by rw [List.getElem_drop]; exact hr, fun j hj => ?_⟩
    rw [← hc2 j hj, hR, show off + k + i * 1 + j = off + (k + i) * 1 + j by omega]
end Go.Proofs.YtidchfncfcckiaaGreat

namespace Go.Proofs.YtidchfncfcckiaaGreat
open Go.RowKit

theorem ints_own (xs : List Int) (h : ∀ x ∈ xs, I64 x) (W : World) : OwnCells intO W (xs.map (Value.int .i64)) xs [] := by
  induction xs with
  | nil => exact .nil
  | cons x xs ih => exact ⟨[.int .i64 x], _, [], [], rfl, rfl, ⟨⟨rfl, h x (List.mem_cons_self ..)⟩, rfl⟩, ih fun y hy => h y (List.mem_cons_of_mem _ hy)⟩
theorem Sl.ints_some {w : World} {ad : Addr} {n cap : Nat} {xs : List Int} (h : Sl intR w (.slice (some ad) n cap) xs) : (∀ x ∈ xs, I64 x) ∧ ∀ j u, (xs.map (Value.int .i64))[j]? = some u → w.cell? (ad.add j) = some u := by
  refine ⟨fun x hx => ?_, fun j u hj => ?_⟩
  · obtain ⟨i, hi, rfl⟩ := List.getElem_of_mem hx
    obtain ⟨_, _, _, h1, _⟩ := h.int hi
    exact h1
  · rw [List.getElem?_map] at hj
    obtain ⟨x, hx, rfl⟩ := Option.map_eq_some_iff.1 hj
    obtain ⟨hi, hx⟩ := List.getElem?_eq_some_iff.1 hx
    obtain ⟨b, off, e, h1, hc⟩ := h.int hi
    injection e with e
    subst e
    rw [add_eq, hc, hx]
/-- 'append(s, t...)': the ints of t, which may be the caller's -/
theorem wpList_appn {P : Program} {ops : Array Oper} {rest : List Oper} {o : Oper} {a : Act} {w : World} {Q : Exit → Act → World → Prop} {t e : TypeId} (E : ElemT P t e intO.n 8)
    (hgd : o.guard = none) (s x : Operand) (ho : o.op = .call { callee := .builtin .append, args := #[s, x], argTypes := #[t, t] })
    {base : Nat} {v : Value} {xs : List Int} (hb : Bld intO w base e v xs []) (hs : a.eval s = v) {A : Option Addr} {n k : Nat} (hx : a.eval x = .slice A n k) {ys : List Int} (hy : Sl intR w (.slice A n k) ys)
    (hbytes : xs.length + ys.length ≤ 1099511627776) (hbase : base ≤ w.heap.size)
    (h : ∀ v' w', Bld intO w' base e v' (xs ++ ys) [] → (∀ w0 : World, w0.heap.size ≤ base → Ext w0 w → Ext w0 w') → wpList P ops Q rest (a.put o.dst v') w') :
    wpList P ops Q (o :: rest) a w := by
  obtain ⟨ht, i, z, hi, hz, hsize, hby2, hzs⟩ := E
  have hn : n = ys.length := hy.cap_.1
  cases A with
  | none =>
    have h0 : ys = [] := by
      cases ys with
      | nil => rfl
      | cons y ys =>
        obtain ⟨_, _, _, e, _⟩ := hy.at_ (show 0 < (y :: ys).length by simp)
        cases e
    subst h0
    have hn0 : n = 0 := hn
    subst hn0
    obtain ⟨cs, b1, b2⟩ := hb
    refine wpList_plain hgd fun K hK => ?_
    have hr : (Builtin.append_ #[t, t] o.type #[v, .slice none 0 k]).run P w = .ok v w := by
      rcases b1.2 with ⟨rfl, _⟩ | ⟨g, cap, cur, rfl, _, _, hnc, _⟩
      · simp [Builtin.append_, run_underlying ht, sizeOf, typeInfo, hi, Builtin.lenOf, Builtin.firstCells]
      · simp [Builtin.append_, run_underlying ht, sizeOf, typeInfo, hi, Builtin.lenOf, Builtin.firstCells, hnc, storeCells]
    unfold Oper.wp execOp
    simp only [ho, resolve, invoke, builtin, Sem.run_bind, Sem.run_pure, Result.andThen_ok, List.map_toArray, List.map_cons, List.map_nil, hs, hx, hr]
    exact hK _ _ (h v w (by rw [List.append_nil]; exact ⟨cs, b1, b2⟩) fun _ _ hx => hx)
  | some ad =>
    obtain ⟨hI, hc⟩ := hy.ints_some
    have hl := hb.lt
    obtain ⟨cs, b1, b2, b3, b4, b5⟩ := hb
    refine wpList_append_own_at w hgd s x t ho base e i z intO.n 8 ht hi hz hsize hby2 hzs (by decide) v xs.length cs hs b1 ad n k (ys.map (Value.int .i64)) hx (by rw [List.length_map, hn]; exact (Nat.mul_one _).symm) hc (fun u hu => by
      obtain ⟨y, _, rfl⟩ := List.mem_map.1 hu; rfl) (by unfold maxLen; omega) (by omega) hbase ?_
    intro v' w' hown hgr _ hat
    refine h v' w' ⟨cs ++ ys.map (Value.int .i64), by rw [List.length_append, ← hn]; exact hown, ?_, fun _ _ hm => (by cases hm), List.nodup_nil, fun _ hm => by cases hm⟩ fun w0 h0 hx0 => hx0.grown hgr fun g hg => Nat.le_trans h0 (hl.2 g hg).2
    have := OwnCells.append (b2.keep (w2 := w') fun b hb => by cases hb) (ints_own ys hI w')
    simpa using this
end Go.Proofs.YtidchfncfcckiaaGreat

namespace Go.Proofs.YtidchfncfcckiaaGreat
open Go.RowKit

def sweepSt (lk : Nat → Nat → Bool) (c : Int) (a : Nat) (l : List Int) (b : Nat) : List Int := if l.getD a 0 = c ∧ lk a b = true then l.set b c else l
def sweepRow (lk : Nat → Nat → Bool) (c : Int) (n : Nat) (l : List Int) (a : Nat) : List Int := (List.range n).foldl (sweepSt lk c a) l
def sweep (lk : Nat → Nat → Bool) (c : Int) (n : Nat) (l : List Int) : List Int := (List.range n).foldl (sweepRow lk c n) l
def sweeps (lk : Nat → Nat → Bool) (c : Int) (n : Nat) : Nat → List Int → List Int
  | 0, l => l
  | t + 1, l => sweep lk c n (sweeps lk c n t l)
theorem foldl_inv {α β : Type} {f : β → α → β} {P : β → Prop} : ∀ (xs : List α) (b : β), P b → (∀ b x, x ∈ xs → P b → P (f b x)) → P (xs.foldl f b)
  | [], _, h, _ => h
  | x :: xs, b, h, hf => by
    rw [List.foldl_cons]
    exact foldl_inv xs (f b x) (hf b x (List.mem_cons_self ..) h) fun b y hy => hf b y (List.mem_cons_of_mem _ hy)
theorem sweep_inv {lk : Nat → Nat → Bool} {c : Int} {n : Nat} {P : List Int → Prop} {l : List Int} (h : P l) (hf : ∀ l a b, a < n → b < n → P l → P (sweepSt lk c a l b)) : P (sweep lk c n l) :=
  foldl_inv _ _ h fun l a ha h => foldl_inv _ _ h fun l b hb h => hf l a b (List.mem_range.1 ha) (List.mem_range.1 hb) h
theorem sweeps_inv {lk : Nat → Nat → Bool} {c : Int} {n : Nat} {P : List Int → Prop} {l : List Int} (h : P l) (hf : ∀ l a b, a < n → b < n → P l → P (sweepSt lk c a l b)) : ∀ t, P (sweeps lk c n t l)
  | 0 => h
  | t + 1 => sweep_inv (sweeps_inv h hf t) hf
theorem sweepSt_len (lk : Nat → Nat → Bool) (c : Int) (a : Nat) (l : List Int) (b : Nat) : (sweepSt lk c a l b).length = l.length := by unfold sweepSt; split <;> simp
theorem sweepSt_mono {lk : Nat → Nat → Bool} {c : Int} {a : Nat} {l : List Int} {b x : Nat} (hb : b < l.length) (h : l.getD x 0 = c) : (sweepSt lk c a l b).getD x 0 = c := by
  unfold sweepSt
  split
  · rw [getD_set _ _ _ _ hb]; split
    · rfl
    · exact h
  · exact h
theorem range_split {n a : Nat} (h : a < n) : List.range n = List.range a ++ a :: (List.range (n - a - 1)).map (a + 1 + ·) := by
  apply List.ext_getElem
  · simp; omega
  · intro k h1 h2
    rw [List.getElem_range]
    by_cases hk : k < a
    · rw [List.getElem_append_left (by simpa using hk), List.getElem_range]
    · rw [List.getElem_append_right (by simpa using hk)]
      by_cases e : k = a
      · subst e; simp
      · obtain ⟨j, hj⟩ : ∃ j, k = a + 1 + j := ⟨k - a - 1, by omega⟩
        subst hj
        have e : a + 1 + j - (List.range a).length = j + 1 := by simp; omega
        simp only [e, List.getElem_cons_succ, List.getElem_map, List.getElem_range]
theorem sweep_hit {lk : Nat → Nat → Bool} {c : Int} {n : Nat} {l : List Int} (hl : l.length = n) {a b : Nat} (ha : a < n) (hb : b < n) (h : l.getD a 0 = c) (hk : lk a b = true) : (sweep lk c n l).getD b 0 = c := by
  have rowP : ∀ (x : Nat) (l : List Int) (a' : Nat), l.length = n ∧ l.getD x 0 = c → (sweepRow lk c n l a').length = n ∧ (sweepRow lk c n l a').getD x 0 = c := fun x l a' h =>
    foldl_inv (P := fun l => l.length = n ∧ l.getD x 0 = c) _ _ h fun l b hb h => ⟨(sweepSt_len lk c a' l b).trans h.1, sweepSt_mono (by rw [h.1]; exact List.mem_range.1 hb) h.2⟩
  unfold sweep
  rw [range_split ha, List.foldl_append, List.foldl_cons]
  obtain ⟨l1, h1⟩ : ∃ l1, l1 = (List.range a).foldl (sweepRow lk c n) l := ⟨_, rfl⟩
  have k1 : l1.length = n ∧ l1.getD a 0 = c := by
    rw [h1]
    exact foldl_inv (P := fun l => l.length = n ∧ l.getD a 0 = c) _ _ ⟨hl, h⟩ fun l x _ h => rowP a l x h
  rw [← h1]
  have k2 : (sweepRow lk c n l1 a).length = n ∧ (sweepRow lk c n l1 a).getD b 0 = c := by
    unfold sweepRow
    rw [range_split hb, List.foldl_append, List.foldl_cons]
    obtain ⟨l2, h2⟩ : ∃ l2, l2 = (List.range b).foldl (sweepSt lk c a) l1 := ⟨_, rfl⟩
    have k2 : l2.length = n ∧ l2.getD a 0 = c := by
      rw [h2]
      refine foldl_inv (P := fun l => l.length = n ∧ l.getD a 0 = c) (List.range b) l1 k1 fun l x hx h => ?_
      have hx := List.mem_range.1 hx
      exact ⟨(sweepSt_len lk c a l x).trans h.1, sweepSt_mono (by rw [h.1]; omega) h.2⟩
    rw [← h2]
    have k3 : (sweepSt lk c a l2 b).length = n ∧ (sweepSt lk c a l2 b).getD b 0 = c := by
      refine ⟨(sweepSt_len lk c a l2 b).trans k2.1, ?_⟩
      unfold sweepSt
      rw [if_pos ⟨k2.2, hk⟩, getD_set _ _ _ _ (by rw [k2.1]; exact hb), if_pos rfl]
    refine foldl_inv (P := fun l => l.length = n ∧ l.getD b 0 = c) ((List.range (n - b - 1)).map (b + 1 + ·)) (sweepSt lk c a l2 b) k3 fun l x hx h => ?_
    obtain ⟨y, hy, rfl⟩ := List.mem_map.1 hx
    have := List.mem_range.1 hy
    exact ⟨(sweepSt_len lk c a l _).trans h.1, sweepSt_mono (by rw [h.1]; omega) h.2⟩
  exact (foldl_inv (P := fun l => l.length = n ∧ l.getD b 0 = c) _ _ k2 fun l x _ h => rowP b l x h).2
/-- closed under the links -/
def ClosedS (lk : Nat → Nat → Bool) (c : Int) (n : Nat) (l : List Int) : Prop := ∀ a b, a < n → b < n → l.getD a 0 = c → lk a b = true → l.getD b 0 = c
theorem set_same {l : List Int} {b : Nat} {c : Int} (h : l.getD b 0 = c) (hb : b < l.length) : l.set b c = l := by
  rw [getD_getElem hb] at h
  rw [← h]
  exact List.set_getElem_self hb
theorem sweep_closed {lk : Nat → Nat → Bool} {c : Int} {n : Nat} {l : List Int} (hl : l.length = n) (h : ClosedS lk c n l) : sweep lk c n l = l := by
  refine sweep_inv (P := fun l1 => l1 = l) rfl fun l1 a b ha hb e => ?_
  subst e
  unfold sweepSt
  split
  · rename_i hc
    exact set_same (h a b ha hb hc.1 hc.2) (by rw [hl]; exact hb)
  · rfl
def cntL (n : Nat) (c : Int) (l : List Int) : Nat := (List.range n).countP fun a => decide (l.getD a 0 = c)
theorem cntL_le (n : Nat) (c : Int) (l : List Int) : cntL n c l ≤ n := by
  unfold cntL
  exact Nat.le_trans List.countP_le_length (by simp)
theorem sweep_more {lk : Nat → Nat → Bool} {c : Int} {n : Nat} {l : List Int} (hl : l.length = n) (h : ¬ ClosedS lk c n l) : cntL n c l < cntL n c (sweep lk c n l) := by
  have hex : ∃ a b, a < n ∧ b < n ∧ l.getD a 0 = c ∧ lk a b = true ∧ ¬ l.getD b 0 = c := Classical.byContradiction fun hn => h fun a b ha hb h1 h2 => Classical.byContradiction fun h3 => hn ⟨a, b, ha, hb, h1, h2, h3⟩
  obtain ⟨a, b, ha, hb, h1, h2, h3⟩ := hex
  unfold cntL
  refine countP_lt _ (fun x hx hp => ?_) ⟨b, List.mem_range.2 hb, ?_, ?_⟩
  · rw [decide_eq_true_eq] at hp ⊢
    exact (sweep_inv (P := fun l => l.length = n ∧ l.getD x 0 = c) ⟨hl, hp⟩ fun l a b _ hb h => ⟨(sweepSt_len lk c a l b).trans h.1, sweepSt_mono (by rw [h.1]; exact hb) h.2⟩).2
  · rw [decide_eq_false_iff_not]; exact h3
  · rw [decide_eq_true_eq]; exact sweep_hit hl ha hb h1 h2
theorem sweeps_len {lk : Nat → Nat → Bool} {c : Int} {n : Nat} {l : List Int} (hl : l.length = n) (t : Nat) : (sweeps lk c n t l).length = n :=
  sweeps_inv (P := fun l => l.length = n) hl (fun l a b _ _ h => (sweepSt_len lk c a l b).trans h) t
theorem sweeps_prog {lk : Nat → Nat → Bool} {c : Int} {n : Nat} {l : List Int} (hl : l.length = n) (h0 : 0 < cntL n c l) : ∀ t, ClosedS lk c n (sweeps lk c n t l) ∨ t < cntL n c (sweeps lk c n t l)
  | 0 => .inr h0
  | t + 1 => by
    by_cases h : ClosedS lk c n (sweeps lk c n t l)
    · left
      show ClosedS lk c n (sweep lk c n (sweeps lk c n t l))
      rw [sweep_closed (sweeps_len hl t) h]; exact h
    · have := sweep_more (sweeps_len hl t) h
      rcases sweeps_prog hl h0 t with h1 | h1
      · exact absurd h1 h
      · right
        show t + 1 < cntL n c (sweep lk c n (sweeps lk c n t l))
        omega
theorem sweeps_vis {R : Nat → Nat → Prop} (hR : ∀ a b, R a b → R b a) {lk : Nat → Nat → Bool} {n i : Nat} {l : List Int} {c : Int} (hlk : ∀ a b, a < n → b < n → (lk a b = true ↔ R a b)) (h : Out R n i l c) (hi : i < n) (h0 : l.getD i 0 < 0) :
    Vis R n c i l (sweeps lk c n n (l.set i c)) := by
  have hc0 : 0 ≤ c := by rw [← h.next]; exact (RG.facts _ _ rfl h.rg).1
  have e : ∀ a, (l.set i c).getD a 0 = if a = i then c else l.getD a 0 := fun a => getD_set l i a c (by rw [h.len]; exact hi)
  have hlow : ∀ a, a < n → l.getD a 0 < c := fun a ha => by rcases h.bd a ha with h | h <;> omega
  have hl0 : (l.set i c).length = n := by rw [List.length_set]; exact h.len
  have hinv := sweeps_inv (lk := lk) (c := c) (n := n) (P := fun l1 => l1.length = n ∧ (∀ a, a < n → 0 ≤ l.getD a 0 → l1.getD a 0 = l.getD a 0) ∧ (∀ a, a < n → l.getD a 0 < 0 → l1.getD a 0 = l.getD a 0 ∨ l1.getD a 0 = c) ∧ l1.getD i 0 = c ∧
      ∀ a, a < n → l.getD a 0 < 0 → l1.getD a 0 = c → Conn R i a) (l := l.set i c)
    ⟨hl0, fun a _ h1 => by rw [e, if_neg (fun e => by subst e; omega)], fun a _ h1 => by
      rw [e]; split
      · exact .inr rfl
      · exact .inl rfl, by rw [e, if_pos rfl], fun a _ h1 h2 => by
      rw [e] at h2
      split at h2
      · rename_i ea; subst ea; exact .refl
      · omega⟩ (fun l1 a b ha hb ⟨p1, p2, p3, p4, p5⟩ => by
      unfold sweepSt
      split
      · rename_i hc
        have hr : R a b := (hlk a b ha hb).1 hc.2
        have hla : l.getD a 0 < 0 := by
          by_cases h9 : 0 ≤ l.getD a 0
          · have := p2 a ha h9
            have := hlow a ha
            omega
          · omega
        have hlb : l.getD b 0 < 0 := by
          by_cases h9 : 0 ≤ l.getD b 0
          · have := h.closed b a hb ha h9 (hR _ _ hr)
            omega
          · omega
        have es : ∀ x, (l1.set b c).getD x 0 = if x = b then c else l1.getD x 0 := fun x => getD_set l1 b x c (by rw [p1]; exact hb)
        refine ⟨by rw [List.length_set]; exact p1, fun x hx h1 => ?_, fun x hx h1 => ?_, ?_, fun x hx h1 h2 => ?_⟩
        · rw [es, if_neg (fun e => by subst e; omega)]; exact p2 x hx h1
        · rw [es]; split
          · exact .inr rfl
          · exact p3 x hx h1
        · rw [es]; split
          · rfl
          · exact p4
        · by_cases ex : x = b
          · subst ex; exact (p5 a ha hla hc.1).step (.inl hr)
          · rw [es, if_neg ex] at h2; exact p5 x hx h1 h2
      · exact ⟨p1, p2, p3, p4, p5⟩) n
  obtain ⟨p1, p2, p3, p4, p5⟩ := hinv
  have hcl : ClosedS lk c n (sweeps lk c n n (l.set i c)) := by
    rcases sweeps_prog (lk := lk) (c := c) hl0 (by
      unfold cntL
      exact List.countP_pos_iff.2 ⟨i, List.mem_range.2 hi, by rw [decide_eq_true_eq, e, if_pos rfl]⟩) n with h1 | h1
    · exact h1
    · have := cntL_le n c (sweeps lk c n n (l.set i c))
      omega
  refine ⟨p1, p2, p3, p4, p5, fun a b ha hb _ h2 hr => ?_⟩
  rw [hcl a b ha hb h2 ((hlk a b ha hb).2 hr)]
  exact hc0
end Go.Proofs.YtidchfncfcckiaaGreat

namespace Go.Proofs.YtidchfncfcckiaaGreat
open Go.RowKit

def conOk (n : Int) (c : Constraint) : Bool := decide (0 ≤ c.a) && decide (c.a < n) && (decide (0 ≤ c.b) && decide (c.b < n)) && decide (c.a < c.b)
def areConB (n : Int) (l : List Constraint) : Bool := decide (1 ≤ n) && decide (n ≤ 8) && decide (l.length ≤ 10) && l.all (conOk n)
def mustR (l : List Constraint) (i j : Nat) : Prop := ∃ c ∈ l, c.same = true ∧ ((c.a = (i : Int) ∧ c.b = (j : Int)) ∨ (c.a = (j : Int) ∧ c.b = (i : Int)))
noncomputable def mustL (n : Int) (l : List Constraint) : List Int := if areConB n l then compL n.toNat (mustR l) else []
def cutB (p : List Int) (c : Constraint) : Bool := !c.same && p.getD c.a.toNat 0 == p.getD c.b.toNat 0
noncomputable def findC (n : Int) (l : List Constraint) : Int := if areConB n l then idxF (cutB (mustL n l)) 0 l else -1
noncomputable def consistB (n : Int) (l : List Constraint) : Bool := areConB n l && decide (findC n l < 0)
theorem areCon_iff {n : Int} {l : List Constraint} : areConB n l = true ↔ 1 ≤ n ∧ n ≤ 8 ∧ l.length ≤ 10 ∧ ∀ c ∈ l, 0 ≤ c.a ∧ c.a < n ∧ 0 ≤ c.b ∧ c.b < n ∧ c.a < c.b := by
  unfold areConB conOk
  simp only [Bool.and_eq_true, decide_eq_true_eq, List.all_eq_true]
  constructor
  · rintro ⟨⟨⟨h1, h2⟩, h3⟩, h4⟩
    exact ⟨h1, h2, h3, fun c hc => by have := h4 c hc; omega⟩
  · rintro ⟨h1, h2, h3, h4⟩
    exact ⟨⟨⟨h1, h2⟩, h3⟩, fun c hc => by have := h4 c hc; omega⟩
theorem mustR_symm {l : List Constraint} {i j : Nat} (h : mustR l i j) : mustR l j i := by
  obtain ⟨c, hc, hs, h⟩ := h
  exact ⟨c, hc, hs, h.symm⟩
theorem mustR_lt {n : Int} {l : List Constraint} (h : areConB n l = true) {i j : Nat} (hr : mustR l i j) : i < n.toNat ∧ j < n.toNat := by
  obtain ⟨c, hc, _, h1⟩ := hr
  obtain ⟨k1, k2, k3, k4⟩ := areCon_iff.1 h
  have := k4 c hc
  rcases h1 with h1 | h1 <;> omega
theorem mustL_conn {n : Int} {l : List Constraint} (h : areConB n l = true) {i j : Nat} (hi : i < n.toNat) (hj : j < n.toNat) : (mustL n l).getD i 0 = (mustL n l).getD j 0 ↔ Conn (mustR l) i j := by
  unfold mustL
  rw [if_pos h]
  exact (compL_is n.toNat (mustR l)).2.2 i j hi hj
theorem mustL_len {n : Int} {l : List Constraint} (h : areConB n l = true) : (mustL n l).length = n.toNat := by
  unfold mustL
  rw [if_pos h]
  exact (compL_is n.toNat (mustR l)).1
theorem cut_iff {n : Int} {l : List Constraint} (h : areConB n l = true) {c : Constraint} (hc : c ∈ l) : cutB (mustL n l) c = true ↔ c.same = false ∧ Conn (mustR l) c.a.toNat c.b.toNat := by
  have := (areCon_iff.1 h).2.2.2 c hc
  unfold cutB
  rw [Bool.and_eq_true, Bool.not_eq_true', beq_iff_eq, mustL_conn h (by omega) (by omega)]
/-- consistent: no cannot-link within a component -/
theorem consist_iff {n : Int} {l : List Constraint} (h : areConB n l = true) : consistB n l = true ↔ ∀ c ∈ l, c.same = false → ¬ Conn (mustR l) c.a.toNat c.b.toNat := by
  unfold consistB findC
  rw [h, if_pos rfl, Bool.true_and, decide_eq_true_eq]
  rcases idxF_cases (cutB (mustL n l)) l 0 with ⟨h1, h2⟩ | ⟨j, hj, h1, h2, h3⟩
  · rw [h1]
    refine ⟨fun _ c hc hs hco => ?_, fun _ => by omega⟩
    have := (cut_iff h hc).2 ⟨hs, hco⟩
    rw [h2 c hc] at this
    cases this
  · rw [h1]
    refine ⟨fun h => by omega, fun hall => ?_⟩
    obtain ⟨k1, k2⟩ := (cut_iff h (List.getElem_mem hj)).1 h2
    exact absurd k2 (hall _ (List.getElem_mem hj) k1)
end Go.Proofs.YtidchfncfcckiaaGreat

namespace Go.Proofs.YtidchfncfcckiaaGreat
open Go.RowKit

/-- an append; all that is known of the memory behind it -/
theorem wpList_app1h {P : Program} {α : Type} {R : RepO α} {ops : Array Oper} {rest : List Oper} {o : Oper} {a : Act} {W : World} {Q : Exit → Act → World → Prop} {t e : TypeId} {bytes : Nat} (E : ElemT P t e R.n bytes) (hsz : 0 < R.n)
    (hgd : o.guard = none) (s x : Operand) (ho : o.op = .call { callee := .builtin .append, args := #[s, x], argTypes := #[t, t] })
    {base : Nat} {v : Value} {xs : List α} {F : List Nat} (hb : Bld R W base e v xs F) (hs : a.eval s = v) {c : Array Value} {T : TypeId} (g k : Nat) (hx : a.eval x = .slice (some ⟨g, 0, none⟩) 1 k) (hg : g = W.heap.size)
    (h1 : ∀ u ∈ c.toList, u.oneCell' = true) {y : α} {G : List Nat} (hy : R.own W c.toList y G) (hG : (∀ b ∈ G, b ∉ F ∧ v.ownBlock ≠ some b) ∧ G.Nodup ∧ ∀ b ∈ G, base ≤ b)
    (hbytes : xs.length + 1 ≤ 1099511627776) (hby : bytes ≤ 128) (hbase : base ≤ W.heap.size)
    (h : ∀ v' w', Bld R w' base e v' (xs ++ [y]) (F ++ G) → (∀ w0 : World, w0.heap.size ≤ base → Ext w0 W → Ext w0 w') → Aft W w' v v' → wpList P ops Q rest (a.put o.dst v') w') :
    wpList P ops Q (o :: rest) a (W.alloc (.cells c T)) := by
  obtain ⟨ht, i, z, hi, hz, hsize, hby2, hzs⟩ := E
  have x1 : Ext W (W.alloc (.cells c T)) := (Ext.refl W).alloc _
  have hb1 := hb.ext x1
  have hl := hb1.lt
  obtain ⟨cs, b1, b2, b3, b4, b5⟩ := hb1
  have hy1 : R.own (W.alloc (.cells c T)) c.toList y G := R.own_keep (fun b hb => x1.block (R.own_lt hy b hb)) hy
  refine wpList_append_own_at (W.alloc (.cells c T)) hgd s x t ho base e i z R.n bytes ht hi hz hsize hby2 hzs hsz v xs.length cs hs b1 ⟨g, 0, none⟩ 1 k c.toList hx (by rw [R.len (R.own_rd hy), Nat.one_mul]) (fun j u hj => ?_) h1
    (by unfold maxLen; omega) (Nat.le_trans (Nat.mul_le_mul hbytes hby) (by decide)) (Nat.le_trans hbase x1.size) ?_
  · subst hg
    have : (W.alloc (.cells c T)).cell? ⟨W.heap.size, j, none⟩ = c[j]? := ((Ext.refl (W.alloc (.cells c T))).box).1 j
    rw [add_eq, Nat.zero_add, this]
    simpa using hj
  · intro v' w' hown hgr _ hat
    obtain ⟨h5, h6⟩ := bld_grown hl b2 b3 b4 b5 hy1 hG hown hgr hat
    refine h _ _ h5 (fun w0 h7 h8 => h6 w0 h7 (h8.trans x1)) ⟨fun b hb hv => ?_, Nat.le_trans x1.size hgr.size, fun b hb => ?_⟩
    · rw [hgr.block b (Nat.lt_of_lt_of_le hb x1.size) (fun e => hv e.symm), x1.block hb]
    · rcases hat with hat | hat
      · exact .inl (hat ▸ hb)
      · rw [hat] at hb
        injection hb with hb
        have := x1.size
        exact .inr (by omega)
end Go.Proofs.YtidchfncfcckiaaGreat

namespace Go.Proofs.YtidchfncfcckiaaGreat
open Go.RowKit

set_option maxHeartbeats 1000000 in
theorem impl_IsWeightMatrix (v : Value) (m : List (List Int)) (w : World) (h : Sl (slR intR) w v m) :
    Calls Tryz.prog 54 #[v] w fun e w2 => e = .returned (.bool (wmB m)) ∧ w = w2 := by
  obtain ⟨A, cap, rfl, hm⟩ := h.form
  by_cases h18 : 1 ≤ m.length ∧ m.length ≤ 8
  · have hin : inB (m.length : Int) 1 8 = true := by unfold inB; rw [decide_eq_true_eq]; omega
    have HIN := hid (fun (W : World) => impl_within (m.length : Int) 1 8 W)
    rw [hin] at HIN
    have HB := hid h18
    clear h18 hin
    go_enter Tryz.func54, Tryz.ntmps54
    go_wp2_with fail
    refine (HIN.out _).mono ?_
    rintro e w2 ⟨rfl, rfl⟩
    go_wp2_with fail
    go_loop [13] (fun i => ∃ k : Nat, k ≤ m.length ∧ i = .int .i64 k ∧ GoodTo m k) (fun i => m.length - (intOf i).toNat)
    case atStart => exact ⟨0, Nat.zero_le _, rfl, fun i hi => absurd hi (Nat.not_lt_zero _)⟩
    case round =>
      obtain ⟨k, hk, rfl, hg⟩ := hrel
      have HG := hid hg
      clear hg
      by_cases hlt : k < m.length
      · obtain ⟨b, off, A2, cap2, eA, hsl, hc⟩ := h.sl hlt
        subst eA
        by_cases hrl : m[k].length = m.length
        · have hrl1 : ((m[k].length : Int) != (m.length : Int)) = false := by simp [hrl]
          have HRL := hid hrl
          have hkr : k < m[k].length := by omega
          obtain ⟨b2, off2, rfl, _, hc2⟩ := hsl.int hkr
          by_cases hd : m[k][k] = 0
          · have hd1 : (m[k][k] != 0) = false := by simp [hd]
            have HD := hid (show ent m k k = 0 by rw [ent_at hlt hkr]; exact hd)
            have hcap := hsl.cap_
            have hkc : k ≤ cap2 := by omega
            have hkc2 : (k : Int) ≤ (cap2 : Int) := by omega
            have hkn : (0 : Int) ≤ (k : Int) := by omega
            clear hd hrl
            go_wp2_with fail
            go_loop [34] (fun i => ∃ j : Nat, j ≤ k ∧ i = .int .i64 j ∧ ∀ q, q < j → (-1000 ≤ ent m k q ∧ ent m k q ≤ 1000) ∧ ent m q k = ent m k q) (fun i => k - (intOf i).toNat)
            case atStart => exact ⟨0, Nat.zero_le _, rfl, fun q hq => absurd hq (Nat.not_lt_zero _)⟩
            case round =>
              obtain ⟨j, hj, rfl, hq⟩ := hrel
              have HQ := hid hq
              clear hq
              by_cases hjk : j < k
              · have hjr : j < m[k].length := by omega
                obtain ⟨b3, off3, e3, _, hc3⟩ := hsl.int hjr
                injection e3 with e3
                injection e3 with e4 e5 _
                subst e4; subst e5
                have hjm : j < m.length := by omega
                obtain ⟨b4, off4, A4, cap4, e4, hsl4, hc4⟩ := h.sl hjm
                injection e4 with e4
                injection e4 with e5 e6 _
                subst e5; subst e6
                have hjl : m[j].length = m.length := by have := (HG.out j hjk).1; rwa [row_at hjm] at this
                have hkj : k < m[j].length := by omega
                obtain ⟨b5, off5, e5, _, hc5⟩ := hsl4.int hkj
                subst e5
                have HE1 := hid (ent_at hlt hjr)
                have HE2 := hid (ent_at hjm hkj)
                have HW := hid (fun (W : World) => impl_within m[k][j] (-1000) 1000 W)
                clear hjl
                by_cases hb : -1000 ≤ m[k][j] ∧ m[k][j] ≤ 1000
                · have hb1 : inB m[k][j] (-1000) 1000 = true := by unfold inB; rw [decide_eq_true_eq]; exact hb
                  rw [hb1] at HW
                  have HBB := hid hb
                  clear hb hb1
                  by_cases he : m[j][k] = m[k][j]
                  · have he1 : (m[j][k] != m[k][j]) = false := by simp [he]
                    have HEE := hid he
                    clear he
                    go_wp2_with (go_at_call 107; refine (HW.out _).mono ?_; rintro e w3 ⟨rfl, rfl⟩)
                    go_round
                    case rel => exact ⟨j + 1, by omega, by go_num, fun q hq => by
                      by_cases e : q = j
                      · subst e; rw [HE1.out, HE2.out]; exact ⟨HBB.out, HEE.out⟩
                      · exact HQ.out q (by omega)⟩
                    case measure => simp [intOf]; omega
                  · have he1 : (m[j][k] != m[k][j]) = true := by simp [he]
                    have HEE := hid (show wmB m = false from wmB_no fun hw => he (by rw [← HE1.out, ← HE2.out]; exact hw.sym j k hjm hlt))
                    clear he
                    go_wp2_with (go_at_call 107; refine (HW.out _).mono ?_; rintro e w3 ⟨rfl, rfl⟩)
                    go_ret
                    exact ⟨ret_bool HEE.out.symm, rfl⟩
                · have hb1 : inB m[k][j] (-1000) 1000 = false := by unfold inB; rw [decide_eq_false_iff_not]; exact hb
                  rw [hb1] at HW
                  have HEE := hid (show wmB m = false from wmB_no fun hw => hb (by rw [← HE1.out]; exact hw.bd k j hlt hjm))
                  clear hb hb1
                  go_wp2_with (go_at_call 107; refine (HW.out _).mono ?_; rintro e w3 ⟨rfl, rfl⟩)
                  go_ret
                  exact ⟨ret_bool HEE.out.symm, rfl⟩
              · have hjk2 : j = k := by omega
                subst hjk2
                go_wp2
                go_round
                case rel => exact ⟨j + 1, by omega, by go_num, fun i hi => by
                  by_cases e : i = j
                  · subst e; rw [row_at hlt]; exact ⟨HRL.out, HD.out, HQ.out⟩
                  · exact HG.out i (by omega)⟩
                case measure => simp [intOf]; omega
          · have hd1 : (m[k][k] != 0) = true := by simp [hd]
            have HEE := hid (show wmB m = false from wmB_no fun hw => hd (by rw [← ent_at hlt hkr]; exact hw.diag k hlt))
            clear hd
            go_wp2
            go_ret
            exact ⟨ret_bool HEE.out.symm, rfl⟩
        · have hrl1 : ((m[k].length : Int) != (m.length : Int)) = true := by simp; omega
          have HEE := hid (show wmB m = false from wmB_no fun hw => hrl (by have := hw.row k hlt; rwa [row_at hlt] at this))
          clear hrl
          go_wp2
          go_ret
          exact ⟨ret_bool HEE.out.symm, rfl⟩
      · have HEE := hid (show wmB m = true from wmB_yes (GoodTo.wm (by have := HG.out; rwa [show k = m.length by omega] at this) HB.out.1 HB.out.2))
        go_wp2
        go_ret
        exact ⟨ret_bool HEE.out.symm, rfl⟩
  · have hin : inB (m.length : Int) 1 8 = false := by unfold inB; rw [decide_eq_false_iff_not]; omega
    have HIN := hid (fun (W : World) => impl_within (m.length : Int) 1 8 W)
    rw [hin] at HIN
    have HEE := hid (show wmB m = false from wmB_no fun hw => h18 ⟨hw.n1, hw.n8⟩)
    clear h18 hin
    go_enter Tryz.func54, Tryz.ntmps54
    go_wp2_with fail
    refine (HIN.out _).mono ?_
    rintro e w2 ⟨rfl, rfl⟩
    go_wp2
    go_ret
    exact ⟨ret_bool HEE.out.symm, rfl⟩
end Go.Proofs.YtidchfncfcckiaaGreat

namespace Go.Proofs.YtidchfncfcckiaaGreat
open Go.RowKit

set_option maxHeartbeats 400000 in
set_option maxRecDepth 20000 in
theorem slices_Clone_i (v : Value) (xs : List Int) (w : World) (h : Sl intR w v xs) (hl : xs.length ≤ 1048576) :
    Calls Tryz.prog 118 #[v] w fun e w2 => ∃ v2 F, e = .returned v2 ∧ OwnSl intO w2 v2 xs F ∧ NewF w F ∧ Ext w w2 := by
  obtain ⟨A, cap, rfl, hm⟩ := h.form
  have q := fun (W : World) (a : Option Addr) (n c n' c' : Nat) => Lib.run_eql_slice_nil (P := Tryz.prog) W 28 3 a n c n' c' Tryz.underlying28
  cases A with
  | none =>
    have h0 : xs = [] := by
      cases xs with
      | nil => rfl
      | cons y ys =>
        obtain ⟨_, _, _, e, _⟩ := h.at_ (show 0 < (y :: ys).length by simp)
        cases e
    subst h0
    go_enter Tryz.func118, Tryz.ntmps118
    go_wp2
    go_ret
    exact ⟨_, [], rfl, .inl ⟨rfl, rfl, none, 0, rfl, Nat.zero_le _⟩, .nil _, Ext.refl _⟩
  | some ad =>
    go_enter Tryz.func118, Tryz.ntmps118
    go_wp2_with (at_builtin; refine wpList_appn elemInt rfl _ _ rfl (Bld.lit w (Nat.le_refl _) _) rfl rfl (h.mono ((Ext.refl _).alloc _)) (by simp; omega) (by simp) ?_; intro v9 w9 hB9 hE9)
    go_ret
    obtain ⟨F', d1, d2, d3⟩ := hB9.done
    exact ⟨_, F', rfl, by simpa using d1, ⟨d2, d3⟩, hE9 w (Nat.le_refl _) ((Ext.refl _).alloc _)⟩
end Go.Proofs.YtidchfncfcckiaaGreat

namespace Go.Proofs.YtidchfncfcckiaaGreat
open Go.RowKit

def GoodS (m : List (List Int)) (i k : Nat) : Prop := ∀ a b, a < m.length → b < m.length → (a < i ∨ (a = i ∧ b < k)) → (-1000 ≤ ent m a b ∧ ent m a b ≤ 1000) ∧ ent m a b = ent m b a ∧ (a = b → ent m a b = 0)
theorem GoodS.next {m : List (List Int)} {i : Nat} (h : GoodS m i m.length) : GoodS m (i + 1) 0 := fun a b ha hb hab => h a b ha hb (by omega)
theorem GoodS.step {m : List (List Int)} {i k : Nat} (h : GoodS m i k) (hb : -1000 ≤ ent m i k ∧ ent m i k ≤ 1000) (hs : ent m i k = ent m k i) (hd : i = k → ent m i k = 0) : GoodS m i (k + 1) := fun a b ha hb9 hab => by
  by_cases e : a = i ∧ b = k
  · obtain ⟨rfl, rfl⟩ := e
    exact ⟨hb, hs, hd⟩
  · exact h a b ha hb9 (by omega)
theorem GoodS.wm {m : List (List Int)} (h : GoodS m m.length 0) (hr : ∀ i, i < m.length → (m.getD i []).length = m.length) : wmB m = (decide (1 ≤ m.length) && decide (m.length ≤ 8)) := by
  rw [Bool.eq_iff_iff, wmB_iff, Bool.and_eq_true, decide_eq_true_eq, decide_eq_true_eq]
  exact ⟨fun k => ⟨k.n1, k.n8⟩, fun k => ⟨k.1, k.2, hr, fun i j hi hj => (h i j hi hj (.inl hi)).1, fun i j hi hj => (h i j hi hj (.inl hi)).2.1, fun i hi => (h i i hi hi (.inl hi)).2.2 rfl⟩⟩

set_option maxHeartbeats 2000000 in
set_option maxRecDepth 20000 in
theorem spec_IsWeightMatrix (v : Value) (m : List (List Int)) (w : World) (h : Sl (slR intR) w v m) :
    Calls Tryz.prog 40 #[v] w fun e w2 => e = .returned (.bool (wmB m)) ∧ Ext w w2 := by
  obtain ⟨A, cap, rfl, hm⟩ := h.form
  have HLEN := hid (fun (W : World) => spec_l1In (m.length : Int) 1 8 W)
  have HH := hid h
  clear h
  go_enter Tryz.func40, Tryz.ntmps40
  go_wp2
  go_loopw [3] (fun i wr => ∃ k : Nat, k ≤ m.length ∧ i = .int .i64 k ∧ (∀ i, i < k → (m.getD i []).length = m.length) ∧ Ext w wr) (fun i _ => m.length - (intOf i).toNat)
  case atStart => exact ⟨0, Nat.zero_le _, rfl, fun i hi => absurd hi (Nat.not_lt_zero _), Ext.refl _⟩
  case round =>
    obtain ⟨k, hk, rfl, hr, hx⟩ := hrel
    have HR := hid hr
    clear hr
    by_cases hlt : k < m.length
    · obtain ⟨b, off, A2, cap2, eA, hsl, hc⟩ := (HH.out.mono hx).sl hlt
      subst eA
      by_cases hrl : m[k].length = m.length
      · have hrl1 : ((m[k].length : Int) != (m.length : Int)) = false := by simp [hrl]
        have HRL := hid hrl
        clear hrl
        go_wp2
        go_roundw
        case rel => exact ⟨k + 1, by omega, by go_num, fun i hi => by
          by_cases e : i = k
          · subst e; rw [row_at hlt]; exact HRL.out
          · exact HR.out i (by omega), hx⟩
        case measure => simp [intOf]; omega
      · have hrl1 : ((m[k].length : Int) != (m.length : Int)) = true := by simp; omega
        have HEE := hid (show wmB m = false from wmB_no fun hw => hrl (by have := hw.row k hlt; rwa [row_at hlt] at this))
        clear hrl
        go_wp2
        go_ret
        exact ⟨ret_bool HEE.out.symm, hx⟩
    · have hkl : k = m.length := by omega
      subst hkl
      have HX0 := hid hx
      clear hx
      go_wp2_with fail
      go_loopw [4] (fun i wr => ∃ k : Nat, k ≤ m.length ∧ i = .int .i64 k ∧ GoodS m k 0 ∧ Ext w wr) (fun i _ => m.length - (intOf i).toNat)
      case atStart => exact ⟨0, Nat.zero_le _, rfl, fun a b _ _ h => by omega, HX0.out⟩
      case round =>
        clear HX0
        obtain ⟨i, hi, rfl, hg, hx⟩ := hrel
        have HG := hid hg
        clear hg
        by_cases hil : i < m.length
        · have HX1 := hid hx
          clear hx
          go_wp2_with fail
          go_loopw [5] (fun t wr => ∃ j : Nat, j ≤ m.length ∧ t = .int .i64 j ∧ GoodS m i j ∧ Ext w wr) (fun t _ => m.length - (intOf t).toNat)
          case atStart => exact ⟨0, Nat.zero_le _, rfl, HG.out, HX1.out⟩
          case round =>
            clear HX1 HG
            obtain ⟨j, hj, rfl, hg, hx⟩ := hrel
            have HG := hid hg
            clear hg
            by_cases hjl : j < m.length
            · obtain ⟨bm, om, Ar, cr, eA, hrow, cm⟩ := (HH.out.mono hx).sl hil
              have hrl := HR.out i hil
              rw [row_at hil] at hrl
              obtain ⟨br, or, eAr, k1, cj⟩ := hrow.int (i := j) (by omega)
              subst eAr
              obtain ⟨bm2, om2, Ar2, cr2, eA2, hrow2, cm2⟩ := (HH.out.mono hx).sl hjl
              subst eA
              injection eA2 with e9
              injection e9 with e8 e7 q3
              clear q3
              subst e8; subst e7
              have hrl2 := HR.out j hjl
              rw [row_at hjl] at hrl2
              obtain ⟨br2, or2, eAr2, k2, ci⟩ := hrow2.int (i := i) (by omega)
              clear k1 k2
              subst eAr2
              have E1 := ent_at hil (show j < m[i].length by omega)
              have E2 := ent_at hjl (show i < m[j].length by omega)
              rw [← E1] at cj
              rw [← E2] at ci
              rw [hrl] at cm
              rw [hrl2] at cm2
              have hjn : (j : Int) < (m.length : Int) := by omega
              have hin9 : (i : Int) < (m.length : Int) := by omega
              have HST := hid (fun h1 h2 h3 => GoodS.step HG.out (k := j) h1 h2 h3)
              have HNO := hid (fun (h : ¬ ((-1000 ≤ ent m i j ∧ ent m i j ≤ 1000) ∧ ent m i j = ent m j i ∧ (i = j → ent m i j = 0))) => wmB_no fun hw => h ⟨hw.bd i j hil hjl, hw.sym i j hil hjl, fun e => by subst e; exact hw.diag i hil⟩)
              obtain ⟨x, hx1⟩ : ∃ x, x = ent m i j := ⟨_, rfl⟩
              obtain ⟨y, hy1⟩ : ∃ x, x = ent m j i := ⟨_, rfl⟩
              rw [← hx1] at cj HST HNO
              rw [← hy1] at ci HST HNO
              have HW := hid (fun (W : World) => spec_l1In x (-1000) 1000 W)
              have y0 : ∀ z : ExtOf wr, z.1.cell? ⟨bm, om + i, none⟩ = _ := fun z => z.2.cell cm
              have y1 : ∀ z : ExtOf wr, z.1.cell? ⟨br, or + j, none⟩ = _ := fun z => z.2.cell cj
              have y2 : ∀ z : ExtOf wr, z.1.cell? ⟨bm, om + j, none⟩ = _ := fun z => z.2.cell cm2
              have y3 : ∀ z : ExtOf wr, z.1.cell? ⟨br2, or2 + i, none⟩ = _ := fun z => z.2.cell ci
              have HX := hid hx
              clear hx1 hy1 E1 E2 hrl hrl2 hrow hrow2 cm cm2 cj ci hx
              by_cases hb : -1000 ≤ x ∧ x ≤ 1000
              · have hb1 : inB x (-1000) 1000 = true := by unfold inB; rw [decide_eq_true_eq]; exact hb
                rw [hb1] at HW
                have HB := hid hb
                clear hb hb1
                by_cases hs : x = y
                · have hs1 : (x != y) = false := by simp [hs]
                  have HS := hid hs
                  by_cases hd : i = j → x = 0
                  · have HD := hid hd
                    have hcase : ((i : Int) == (j : Int)) = false ∨ (((i : Int) == (j : Int)) = true ∧ (x != 0) = false) := by
                      by_cases e : i = j
                      · exact .inr ⟨by simp [e], by simp [hd e]⟩
                      · exact .inl (by rw [beq_eq_false_iff_ne]; omega)
                    clear hs hd
                    rcases hcase with e1 | ⟨e1, e2⟩
                    · go_wp2_with fail
                      refine wp_region_ext (by kernel_rfl) (by kernel_rfl) ?_
                      repeat (go_big_quiet_step (((first | (go_at_call 92; exact quiet_same (HW.out _))))))
                      refine wpQuiet_nil ?_
                      rintro w5 ⟨⟨_, x5⟩, rfl⟩
                      go_wp2
                      go_roundw
                      case rel => exact ⟨j + 1, by omega, by go_num, HST.out HB.out HS.out HD.out, HX.out.trans x5⟩
                      case measure => simp [intOf]; omega
                    · go_wp2_with fail
                      refine wp_region_ext (by kernel_rfl) (by kernel_rfl) ?_
                      repeat (go_big_quiet_step (((first | (go_at_call 92; exact quiet_same (HW.out _))))))
                      refine wpQuiet_nil ?_
                      rintro w5 ⟨⟨_, x5⟩, rfl⟩
                      go_wp2
                      go_roundw
                      case rel => exact ⟨j + 1, by omega, by go_num, HST.out HB.out HS.out HD.out, HX.out.trans x5⟩
                      case measure => simp [intOf]; omega
                  · have HEE := hid (HNO.out fun h => hd h.2.2)
                    have e1 : ((i : Int) == (j : Int)) = true := by
                      rw [beq_iff_eq]
                      exact Classical.byContradiction fun h => hd fun e => absurd (by omega) h
                    have e2 : (x != 0) = true := by rw [bne_iff_ne]; exact fun h => hd fun _ => h
                    clear hs hd
                    go_wp2_with fail
                    refine wp_region_ext (by kernel_rfl) (by kernel_rfl) ?_
                    repeat (go_big_quiet_step (((first | (go_at_call 92; exact quiet_same (HW.out _))))))
                    refine wpQuiet_nil ?_
                    rintro w5 ⟨⟨_, x5⟩, rfl⟩
                    go_wp2
                    go_ret
                    exact ⟨ret_bool HEE.out.symm, HX.out.trans x5⟩
                · have hs1 : (x != y) = true := by simp [hs]
                  have HEE := hid (HNO.out fun h => hs h.2.1)
                  clear hs
                  go_wp2_with fail
                  refine wp_region_ext (by kernel_rfl) (by kernel_rfl) ?_
                  repeat (go_big_quiet_step (((first | (go_at_call 92; exact quiet_same (HW.out _))))))
                  refine wpQuiet_nil ?_
                  rintro w5 ⟨⟨_, x5⟩, rfl⟩
                  go_wp2
                  go_ret
                  exact ⟨ret_bool HEE.out.symm, HX.out.trans x5⟩
              · have hb1 : inB x (-1000) 1000 = false := by unfold inB; rw [decide_eq_false_iff_not]; exact hb
                rw [hb1] at HW
                have HEE := hid (HNO.out fun h => hb h.1)
                clear hb hb1
                go_wp2_with fail
                refine wp_region_ext (by kernel_rfl) (by kernel_rfl) ?_
                repeat (go_big_quiet_step (((first | (go_at_call 92; exact quiet_same (HW.out _))))))
                refine wpQuiet_nil ?_
                rintro w5 ⟨⟨_, x5⟩, rfl⟩
                go_wp2
                go_ret
                exact ⟨ret_bool HEE.out.symm, HX.out.trans x5⟩
            · have hjl2 : j = m.length := by omega
              subst hjl2
              have HN := hid HG.out.next
              go_wp2
              go_roundw
              case rel => exact ⟨i + 1, by omega, by go_num, HN.out, hx⟩
              case measure => simp [intOf]; omega
        · have hil2 : i = m.length := by omega
          subst hil2
          have HV := hid (HG.out.wm HR.out)
          go_wp2_with (go_at_call 92; refine (HLEN.out _).mono ?_; rintro e w2 ⟨rfl, rfl⟩)
          go_ret
          exact ⟨ret_bool (by rw [HV.out]; unfold inB; rw [Bool.eq_iff_iff]; simp only [Bool.and_eq_true, decide_eq_true_eq]; omega), hx⟩
end Go.Proofs.YtidchfncfcckiaaGreat

namespace Go.Proofs.YtidchfncfcckiaaGreat
open Go.RowKit

theorem list3 {cs : List Value} (h : cs.length = 3) {a b c : Value} (ha : (cs.drop 0).take 1 = [a]) (hb : (cs.drop 1).take 1 = [b]) (hc : (cs.drop 2).take 1 = [c]) : cs = [a, b, c] := by
  match cs, h with
  | [x, y, z], _ => simp_all
theorem reads_constraint {t : TypeId} {f0 f1 f2 : Field} (ht : Tryz.prog.underlying t = some (.struct #[f0, f1, f2])) (hc : Tryz.prog.cellsOf t = 3)
    (h0 : f0.type = 3 ∧ f0.offset = 0) (h1 : f1.type = 3 ∧ f1.offset = 1) (h2 : f2.type = 4 ∧ f2.offset = 2) : Reads Tryz.prog t constraintR := by
  refine ⟨hc, fun h => ?_⟩
  obtain ⟨a, e0, w0⟩ := Reads.field ht h 0 f0 rfl (h0.1 ▸ rInt)
  obtain ⟨b, e1, w1⟩ := Reads.field ht h 1 f1 rfl (h1.1 ▸ rInt)
  obtain ⟨s, e2⟩ := Reads.field ht h 2 f2 rfl (h2.1 ▸ rBool)
  rw [h0.2] at e0; rw [h1.2] at e1; rw [h2.2] at e2
  exact ⟨⟨a, b, s⟩, list3 ((struct_len ht h).trans hc) e0 e1 e2, w0, w1⟩
theorem rLawConstraint : Reads Tryz.prog 81 constraintR := reads_constraint Tryz.underlying81 (by kernel_rfl) ⟨rfl, rfl⟩ ⟨rfl, rfl⟩ ⟨rfl, rfl⟩
theorem rLawConstraints : Reads Tryz.prog 40 (slR constraintR) := reads_slice Tryz.underlying40 (by kernel_rfl) (by decide) rLawConstraint

set_option maxHeartbeats 400000 in
theorem szConstraintS_c (v : Value) (xs : List Constraint) (left : Int) (w : World) (h : Sl constraintR w v xs) (h0 : 0 ≤ left) (h1 : left ≤ 1048576) :
    Calls Tryz.prog 19 #[v, .int .i64 left] w fun e w2 => e = .returned (.int .i64 (szv ((xs.length : Nat) : Int) left)) ∧ Ext w w2 := by
  obtain ⟨A, cap, rfl, hm⟩ := h.form
  by_cases hlt : left < xs.length
  · go_enter Tryz.func19, Tryz.ntmps19
    go_wp2
    go_ret
    exact ⟨ret_int (by unfold szv; rw [if_pos (by omega)]), Ext.refl _⟩
  · go_enter Tryz.func19, Tryz.ntmps19
    go_wp2
    go_ret
    exact ⟨ret_int (by unfold szv; rw [if_neg (by omega)]), Ext.refl _⟩

set_option maxHeartbeats 400000 in
theorem toConstraint_c (a b : Int) (s : Bool) (w : World) :
    Calls Tryz.prog 73 #[.agg #[.int .i64 a, .int .i64 b, .bool s]] w fun e w2 => e = .returned (.agg #[.int .i64 a, .int .i64 b, .bool s]) ∧ Ext w w2 := by
  go_enter Tryz.func73, Tryz.ntmps73
  go_wp2
  exact bodyPost_ret (v := .agg #[.int .i64 a, .int .i64 b, .bool s]) (by simp [results, Tryz.results73, go_sem]) rfl ⟨rfl, by repeat (first | exact Ext.refl _ | refine Ext.alloc ?_ _ | refine Ext.setCell ?_ (by simp) _)⟩

theorem infoCon : (Tryz.prog.info? 79).map (fun i => (i.zero, i.size, i.bytes)) = some (some (.agg #[.int .i64 0, .int .i64 0, .bool false]), 3, 24) := by kernel_rfl
def conZ : List Value := [.int .i64 0, .int .i64 0, .bool false]
set_option maxHeartbeats 400000 in
set_option maxRecDepth 20000 in
theorem toConstraintS_c (v : Value) (xs : List Constraint) (w : World) (h : Sl constraintR w v xs) (hb : xs.length ≤ 1048576) :
    Calls Tryz.prog 21 #[v] w fun e w2 => ∃ v2 F, e = .returned v2 ∧ OwnSl constraintO w2 v2 xs F ∧ NewF w F ∧ Ext w w2 := by
  obtain ⟨A, cap, rfl, hm⟩ := h.form
  obtain ⟨i0, hi0, hz0, hz1, hz2⟩ := info_parts infoCon
  have hmk := run_mk (P := Tryz.prog) 25 79 i0 _ conZ 24 Tryz.underlying25 hi0 hz0 rfl hz1 hz2 xs.length (by omega) hm
  go_enter Tryz.func21, Tryz.ntmps21
  go_wp2
  go_loopw [4] (fun i wr => ∃ (k : Nat) (done : List Value) (F : List Nat), k ≤ xs.length ∧ i = .int .i64 k ∧ Blk wr w.heap.size 79 (done ++ (List.replicate (xs.length - k) conZ).flatten) ∧
    OwnCells constraintO wr done (xs.take k) F ∧ FromF w.heap.size F ∧ Ext w wr) (fun i _ => xs.length - (intOf i).toNat)
  case atStart => exact ⟨0, [], [], Nat.zero_le _, rfl, by simpa using Blk.new w 79 (List.replicate xs.length conZ).flatten.toArray, .nil, .nil _, (Ext.refl _).alloc _⟩
  case round =>
    obtain ⟨k, done, F, hk, rfl, hblk, hown, hF, hx⟩ := hrel
    by_cases hlt : k < xs.length
    · obtain ⟨b, off, rfl, hok, hc0, hc1, hc2⟩ := (h.mono hx).constraint hlt
      have hz : (List.replicate (xs.length - k) conZ).flatten = .int .i64 0 :: .int .i64 0 :: .bool false :: (List.replicate (xs.length - (k + 1)) conZ).flatten := by
        rw [show xs.length - k = (xs.length - (k + 1)) + 1 by omega, List.replicate_succ]; rfl
      rw [hz] at hblk
      clear hz
      have hl : done.length = k * 3 := by rw [hown.length]; simp [constraintO, flatO, constraintR]; omega
      have hgl := block_lt hblk.out
      have HL := hid hl
      clear hl
      go_wp2_with fail
      refine (toConstraint_c _ _ _ _).mono ?_
      rintro e w2 ⟨rfl, x2⟩
      have hblk2 := hblk.ext x2
      obtain ⟨p0, q0⟩ := hblk2.at_ HL.out
      have b3 := hblk2.store HL.out (.int .i64 xs[k].a)
      have l3 : (done ++ [Value.int .i64 xs[k].a]).length = k * 3 + 1 := by rw [List.length_append, HL.out]; rfl
      obtain ⟨p1, q1⟩ := b3.at_ l3
      have b4 := b3.store l3 (.int .i64 xs[k].b)
      have l4 : (done ++ [Value.int .i64 xs[k].a] ++ [Value.int .i64 xs[k].b]).length = k * 3 + 2 := by rw [List.length_append, l3]; rfl
      obtain ⟨p2, q2⟩ := b4.at_ l4
      have hst := b4.store l4 (.bool xs[k].same)
      have hk2 : ∀ b, b ≠ w.heap.size → (((w2.setCell ⟨w.heap.size, k * 3, none⟩ (.int .i64 xs[k].a)).setCell ⟨w.heap.size, k * 3 + 1, none⟩ (.int .i64 xs[k].b)).setCell ⟨w.heap.size, k * 3 + 2, none⟩ (.bool xs[k].same)).heap[b]? = w2.heap[b]? :=
        fun b hb => (keep_setCell hb).trans ((keep_setCell hb).trans (keep_setCell hb))
      obtain ⟨ho3, hF3⟩ := hown.step (R := constraintO) hF x2 ⟨⟨rfl, hok⟩, rfl⟩ (NewF.nil _) hgl hk2
      have HK := hid (And.intro ho3 hF3)
      have HST := hid hst
      clear hblk hblk2 b3 b4 HL l3 l4 hst hk2 ho3 hF3 hok
      go_wp2
      go_roundw
      case rel => exact ⟨k + 1, done ++ [.int .i64 xs[k].a, .int .i64 xs[k].b, .bool xs[k].same], F, by omega, by go_num, by simpa using HST.out, by rw [List.take_succ_eq_append_getElem hlt]; simpa [Constraint.cells] using HK.out.1, by simpa using HK.out.2, (((hx.trans x2).setCell (by simp) _).setCell (by simp) _).setCell (by simp) _⟩
      case measure => simp [intOf]; omega
    · go_wp2
      go_ret
      rw [show xs.length - k = 0 by omega, List.replicate_zero, List.flatten_nil, List.append_nil] at hblk
      rw [List.take_of_length_le (by omega)] at hown
      exact ⟨_, _, rfl, OwnSl.of_blk hblk (by unfold maxLen; omega) hown, hF.new rfl, hx⟩
end Go.Proofs.YtidchfncfcckiaaGreat

namespace Go.Proofs.YtidchfncfcckiaaGreat
open Go.RowKit

def sumN (f : Nat → Int) : Nat → Int
  | 0 => 0
  | n + 1 => sumN f n + f n
theorem sumN_congr {f g : Nat → Int} : ∀ n, (∀ i, i < n → f i = g i) → sumN f n = sumN g n
  | 0, _ => rfl
  | n + 1, h => by rw [sumN, sumN, sumN_congr n fun i hi => h i (by omega), h n (by omega)]
theorem sumN_nn {f : Nat → Int} : ∀ n, (∀ i, i < n → 0 ≤ f i) → 0 ≤ sumN f n
  | 0, _ => Int.le_refl _
  | n + 1, h => by
    have := sumN_nn (f := f) n fun i hi => h i (by omega)
    have := h n (by omega)
    rw [sumN]; omega
def costPair (m : List (List Int)) (p : List Int) (i k : Nat) : Int := if p.getD i 0 = p.getD k 0 then max 0 (-(ent m i k)) else max 0 (ent m i k)
def costRow (m : List (List Int)) (p : List Int) (i : Nat) : Int := sumN (costPair m p i) i
def costN (m : List (List Int)) (p : List Int) (n : Nat) : Int := sumN (costRow m p) n
def costP (m : List (List Int)) (p : List Int) : Int := costN m p p.length
theorem costPair_nn (m : List (List Int)) (p : List Int) (i k : Nat) : 0 ≤ costPair m p i k := by unfold costPair; split <;> omega
theorem costRow_nn (m : List (List Int)) (p : List Int) (i : Nat) : 0 ≤ costRow m p i := sumN_nn _ fun k _ => costPair_nn m p i k
theorem costN_nn (m : List (List Int)) (p : List Int) (n : Nat) : 0 ≤ costN m p n := sumN_nn _ fun i _ => costRow_nn m p i
theorem costP_nn (m : List (List Int)) (p : List Int) : 0 ≤ costP m p := costN_nn m p _
theorem costN_app (m : List (List Int)) (q t : List Int) : ∀ n, n ≤ q.length → costN m (q ++ t) n = costN m q n := fun n hn => by
  refine sumN_congr n fun i hi => sumN_congr i fun k hk => ?_
  unfold costPair
  rw [getD_app_l (by omega), getD_app_l (by omega)]
theorem costN_mono (m : List (List Int)) (p : List Int) {a b : Nat} (h : a ≤ b) : costN m p a ≤ costN m p b := by
  induction b with
  | zero => have : a = 0 := by omega
            subst this; exact Int.le_refl _
  | succ b ih =>
    by_cases e : a = b + 1
    · subst e; exact Int.le_refl _
    · have := ih (by omega)
      have h2 := costRow_nn m p b
      show costN m p a ≤ costN m p b + costRow m p b
      omega
/-- more labels cost no less -/
theorem costP_app (m : List (List Int)) (q t : List Int) : costP m q ≤ costP m (q ++ t) := by
  unfold costP
  rw [← costN_app m q t q.length (Nat.le_refl _)]
  exact costN_mono m (q ++ t) (by simp)
theorem costP_snoc (m : List (List Int)) (q : List Int) (x : Int) : costP m (q ++ [x]) = costP m q + sumN (fun k => if x = q.getD k 0 then max 0 (-(ent m q.length k)) else max 0 (ent m q.length k)) q.length := by
  unfold costP
  rw [List.length_append, List.length_singleton]
  show costN m (q ++ [x]) q.length + costRow m (q ++ [x]) q.length = _
  rw [costN_app m q [x] q.length (Nat.le_refl _)]
  congr 1
  refine sumN_congr _ fun k hk => ?_
  unfold costPair
  rw [getD_app_at, getD_app_l hk]

def keepC (p : List Int) (c : Constraint) : Bool := decide (0 ≤ c.a) && decide (c.a < p.length) && (decide (0 ≤ c.b) && decide (c.b < p.length)) && ((p.getD c.a.toNat 0 == p.getD c.b.toNat 0) == c.same)
def keepsB (p : List Int) (l : List Constraint) : Bool := l.all (keepC p)
/-- all rows of labels that go on from q, nx being the next free label, r items to go -/
def leaves : Nat → List Int → Nat → List (List Int)
  | 0, q, _ => [q]
  | r + 1, q, nx => (List.range (nx + 1)).flatMap fun (x : Nat) => leaves r (q ++ [(x : Int)]) (max nx (x + 1))
def bestSt (m : List (List Int)) (l : List Constraint) (s : List Int × Int × Int) (p : List Int) : List Int × Int × Int :=
  if keepsB p l = true then (if s.2.1 < 0 ∨ costP m p < s.2.1 then (p, costP m p, 1) else if costP m p = s.2.1 then (s.1, s.2.1, s.2.2 + 1) else s) else s
def bestF (m : List (List Int)) (l : List Constraint) : List Int × Int × Int := (leaves m.length [] 0).foldl (bestSt m l) ([], -1, 0)
theorem leaves_pre : ∀ (r : Nat) (q : List Int) (nx : Nat), ∀ p ∈ leaves r q nx, ∃ t, p = q ++ t ∧ t.length = r
  | 0, q, nx, p, hp => by
    rw [leaves, List.mem_singleton] at hp
    exact ⟨[], by simp [hp], rfl⟩
  | r + 1, q, nx, p, hp => by
    rw [leaves, List.mem_flatMap] at hp
    obtain ⟨x, _, hp⟩ := hp
    obtain ⟨t, e, ht⟩ := leaves_pre r _ _ p hp
    exact ⟨(x : Int) :: t, by rw [e]; simp, by simp [ht]⟩
/-- rows of restricted growth are among them -/
theorem leaves_mem : ∀ (r : Nat) (q t : List Int), t.length = r → RG (q ++ t) → q ++ t ∈ leaves r q (nextOf q).toNat
  | 0, q, t, h, _ => by
    have : t = [] := List.eq_nil_of_length_eq_zero h
    subst this
    rw [leaves, List.append_nil]; exact List.mem_singleton_self _
  | r + 1, q, t, h, hr => by
    cases t with
    | nil => simp at h
    | cons x t =>
      have e : q ++ x :: t = (q ++ [x]) ++ t := by simp
      rw [e] at hr ⊢
      have hq : RG (q ++ [x]) := fun k hk => by
        have := hr k (by rw [List.length_append]; omega)
        rwa [getD_app_l hk, List.take_append_of_le_length (by omega)] at this
      obtain ⟨hq0, x0, x1⟩ := hq.init
      have ih := leaves_mem r (q ++ [x]) t (by simpa using h) hr
      have hn := (RG.facts _ q rfl hq0).1
      rw [nextOf_snoc] at ih
      rw [leaves, List.mem_flatMap]
      refine ⟨x.toNat, List.mem_range.2 (by omega), ?_⟩
      have e1 : ((x.toNat : Nat) : Int) = x := by omega
      have e2 : max (nextOf q).toNat (x.toNat + 1) = (max (nextOf q) (x + 1)).toNat := by omega
      rw [e1, e2]
      exact ih
theorem leaves_rg : ∀ (r : Nat) (q : List Int) (nx : Nat), RG q → nextOf q = nx → ∀ p ∈ leaves r q nx, RG p
  | 0, q, nx, h, _, p, hp => by rw [leaves, List.mem_singleton] at hp; rw [hp]; exact h
  | r + 1, q, nx, h, hn, p, hp => by
    rw [leaves, List.mem_flatMap] at hp
    obtain ⟨x, hx, hp⟩ := hp
    have hx := List.mem_range.1 hx
    exact leaves_rg r (q ++ [(x : Int)]) _ (h.snoc (by omega) (by rw [hn]; omega)) (by rw [nextOf_snoc, hn]; omega) p hp
/-- what the fold leaves -/
theorem best_fold (m : List (List Int)) (l : List Constraint) : ∀ (xs : List (List Int)) (s : List Int × Int × Int), (s.2.1 = -1 ∨ (0 ≤ s.2.1 ∧ keepsB s.1 l = true ∧ s.2.1 = costP m s.1)) →
    ∃ r, xs.foldl (bestSt m l) s = r ∧ (r.2.1 = -1 ∨ (0 ≤ r.2.1 ∧ keepsB r.1 l = true ∧ r.2.1 = costP m r.1)) ∧ (0 ≤ s.2.1 → 0 ≤ r.2.1 ∧ r.2.1 ≤ s.2.1) ∧ (∀ p ∈ xs, keepsB p l = true → 0 ≤ r.2.1 ∧ r.2.1 ≤ costP m p) ∧ (r.1 ∈ xs ∨ (r.1 = s.1 ∧ r.2.1 = s.2.1))
  | [], s, h => ⟨s, rfl, h, fun h => ⟨h, Int.le_refl _⟩, fun _ hp => (by cases hp), .inr ⟨rfl, rfl⟩⟩
  | x :: xs, s, h => by
    rw [List.foldl_cons]
    have hx := costP_nn m x
    have step : (bestSt m l s x).2.1 = -1 ∨ (0 ≤ (bestSt m l s x).2.1 ∧ keepsB (bestSt m l s x).1 l = true ∧ (bestSt m l s x).2.1 = costP m (bestSt m l s x).1) := by
      unfold bestSt
      split
      · rename_i hk
        split
        · exact .inr ⟨hx, hk, rfl⟩
        · split
          · exact h
          · exact h
      · exact h
    have le1 : 0 ≤ s.2.1 → 0 ≤ (bestSt m l s x).2.1 ∧ (bestSt m l s x).2.1 ≤ s.2.1 := fun h0 => by
      unfold bestSt
      split
      · split
        · rename_i hc
          show 0 ≤ costP m x ∧ costP m x ≤ s.2.1
          omega
        · split
          · show 0 ≤ s.2.1 ∧ s.2.1 ≤ s.2.1; omega
          · omega
      · omega
    have le2 : keepsB x l = true → 0 ≤ (bestSt m l s x).2.1 ∧ (bestSt m l s x).2.1 ≤ costP m x := fun hk => by
      unfold bestSt
      rw [if_pos hk]
      split
      · show 0 ≤ costP m x ∧ costP m x ≤ costP m x; omega
      · split
        · show 0 ≤ s.2.1 ∧ s.2.1 ≤ costP m x; omega
        · omega
    have mem : ((bestSt m l s x).1 = s.1 ∧ (bestSt m l s x).2.1 = s.2.1) ∨ (bestSt m l s x).1 = x := by
      unfold bestSt
      split
      · split
        · exact .inr rfl
        · split
          · exact .inl ⟨rfl, rfl⟩
          · exact .inl ⟨rfl, rfl⟩
      · exact .inl ⟨rfl, rfl⟩
    obtain ⟨r, e, h1, h2, h3, h4⟩ := best_fold m l xs _ step
    refine ⟨r, e, h1, fun h0 => ?_, fun p hp hk => ?_, ?_⟩
    · have a := le1 h0
      have b := h2 a.1
      omega
    · rcases List.mem_cons.1 hp with rfl | hp
      · have a := le2 hk
        have b := h2 a.1
        omega
      · exact h3 p hp hk
    · rcases h4 with h4 | ⟨h4, h5⟩
      · exact .inl (List.mem_cons_of_mem _ h4)
      · rcases mem with ⟨m1, m2⟩ | m1
        · exact .inr ⟨h4.trans m1, h5.trans m2⟩
        · exact .inl (by rw [h4, m1]; exact List.mem_cons_self ..)

/-! ### The search with pruning -/
/-- the constraints that end at the last item are met -/
def lastOk (p : List Int) (l : List Constraint) : Bool := l.all fun c => !(c.b == (p.length : Int) - 1 && !((p.getD c.a.toNat 0 == p.getD (p.length - 1) 0) == c.same))
def walkF (m : List (List Int)) (l : List Constraint) : Nat → List Int → Nat → Int → List Int × Int × Int → List Int × Int × Int
  | 0, q, _, cost, s => if 0 ≤ s.2.1 ∧ s.2.1 < cost then s else if s.2.1 < 0 ∨ cost < s.2.1 then (q, cost, 1) else (s.1, s.2.1, s.2.2 + 1)
  | r + 1, q, nx, cost, s => if 0 ≤ s.2.1 ∧ s.2.1 < cost then s else
      (List.range (nx + 1)).foldl (fun s (x : Nat) => if lastOk (q ++ [(x : Int)]) l = true then walkF m l r (q ++ [(x : Int)]) (max nx (x + 1)) (costP m (q ++ [(x : Int)])) s else s) s
/-- all constraints within q are met -/
def KeptIn (q : List Int) (l : List Constraint) : Prop := ∀ c ∈ l, c.b < q.length → (q.getD c.a.toNat 0 == q.getD c.b.toNat 0) = c.same
theorem KeptIn.snoc {q : List Int} {l : List Constraint} {n : Int} (hl : ∀ c ∈ l, 0 ≤ c.a ∧ c.a < n ∧ 0 ≤ c.b ∧ c.b < n ∧ c.a < c.b) (h : KeptIn q l) {x : Int} (hk : lastOk (q ++ [x]) l = true) : KeptIn (q ++ [x]) l := fun c hc hb => by
  have hcl := hl c hc
  rw [List.length_append, List.length_singleton] at hb
  by_cases e : c.b < q.length
  · have := h c hc e
    rw [getD_app_l (by omega), getD_app_l (by omega)]
    exact this
  · have he : c.b.toNat = q.length := by omega
    have := List.all_eq_true.1 hk c hc
    rw [List.length_append, List.length_singleton, Nat.add_sub_cancel] at this
    have hb2 : (c.b == ((q.length + 1 : Nat) : Int) - 1) = true := by rw [beq_iff_eq]; omega
    rw [hb2, Bool.true_and, Bool.not_not] at this
    rw [he]
    exact (beq_iff_eq).1 this
theorem skip_all (m : List (List Int)) (l : List Constraint) : ∀ (xs : List (List Int)) (s : List Int × Int × Int), (∀ p ∈ xs, keepsB p l = true → 0 ≤ s.2.1 ∧ s.2.1 < costP m p) → xs.foldl (bestSt m l) s = s
  | [], _, _ => rfl
  | x :: xs, s, h => by
    rw [List.foldl_cons]
    have e : bestSt m l s x = s := by
      unfold bestSt
      split
      · rename_i hk
        have := h x (List.mem_cons_self ..) hk
        rw [if_neg (by omega), if_neg (by omega)]
      · rfl
    rw [e]
    exact skip_all m l xs s fun p hp => h p (List.mem_cons_of_mem _ hp)
theorem keeps_of {p : List Int} {l : List Constraint} (hl : ∀ c ∈ l, 0 ≤ c.a ∧ c.a < p.length ∧ 0 ≤ c.b ∧ c.b < p.length ∧ c.a < c.b) : keepsB p l = true ↔ KeptIn p l := by
  unfold keepsB
  rw [List.all_eq_true]
  constructor
  · intro h c hc _
    have := h c hc
    unfold keepC at this
    rw [Bool.and_eq_true] at this
    exact beq_iff_eq.1 this.2
  · intro h c hc
    have hcl := hl c hc
    unfold keepC
    rw [decide_eq_true hcl.1, decide_eq_true hcl.2.1, decide_eq_true hcl.2.2.1, decide_eq_true hcl.2.2.2.1, h c hc hcl.2.2.2.1]
    simp
theorem walk_eq (m : List (List Int)) (l : List Constraint) (n : Nat) (hl : ∀ c ∈ l, 0 ≤ c.a ∧ c.a < (n : Int) ∧ 0 ≤ c.b ∧ c.b < (n : Int) ∧ c.a < c.b) : ∀ (r : Nat) (q : List Int) (nx : Nat) (s : List Int × Int × Int), q.length + r = n → KeptIn q l →
    walkF m l r q nx (costP m q) s = (leaves r q nx).foldl (bestSt m l) s
  | 0, q, nx, s, hn, hk => by
    rw [walkF, leaves, List.foldl_cons, List.foldl_nil]
    have hkb := (keeps_of (p := q) (l := l) (fun c hc => by have := hl c hc; omega)).2 hk
    unfold bestSt
    rw [if_pos hkb]
    by_cases h1 : 0 ≤ s.2.1 ∧ s.2.1 < costP m q
    · rw [if_pos h1, if_neg (by omega), if_neg (by omega)]
    · rw [if_neg h1]
      by_cases h2 : s.2.1 < 0 ∨ costP m q < s.2.1
      · rw [if_pos h2, if_pos h2]
      · rw [if_neg h2, if_neg h2, if_pos (by omega)]
  | r + 1, q, nx, s, hn, hk => by
    rw [walkF]
    by_cases h1 : 0 ≤ s.2.1 ∧ s.2.1 < costP m q
    · rw [if_pos h1, skip_all m l _ s fun p hp _ => ?_]
      obtain ⟨t, rfl, _⟩ := leaves_pre _ _ _ p hp
      have := costP_app m q t
      omega
    · rw [if_neg h1, leaves]
      have key : ∀ (xs : List Nat) (s : List Int × Int × Int), xs.foldl (fun s (x : Nat) => if lastOk (q ++ [(x : Int)]) l = true then walkF m l r (q ++ [(x : Int)]) (max nx (x + 1)) (costP m (q ++ [(x : Int)])) s else s) s =
          (xs.flatMap fun (x : Nat) => leaves r (q ++ [(x : Int)]) (max nx (x + 1))).foldl (bestSt m l) s := by
        intro xs
        induction xs with
        | nil => intro s; rfl
        | cons x xs ih =>
          intro s
          rw [List.foldl_cons, List.flatMap_cons, List.foldl_append, ih]
          congr 1
          by_cases hb : lastOk (q ++ [(x : Int)]) l = true
          · rw [if_pos hb]
            exact walk_eq m l n hl r _ _ s (by rw [List.length_append, List.length_singleton]; omega) (hk.snoc hl hb)
          · rw [if_neg hb]
            refine (skip_all m l _ s fun p hp hkp => ?_).symm
            exfalso
            apply hb
            obtain ⟨t, rfl, ht⟩ := leaves_pre _ _ _ p hp
            have hlen : (q ++ [(x : Int)] ++ t).length = n := by simp only [List.length_append, List.length_singleton, ht]; omega
            have hkk := (keeps_of (p := q ++ [(x : Int)] ++ t) (l := l) (fun c hc => by rw [hlen]; exact hl c hc)).1 hkp
            unfold lastOk
            rw [List.all_eq_true]
            intro c hc
            have hcl := hl c hc
            rw [List.length_append, List.length_singleton, Nat.add_sub_cancel]
            by_cases he : c.b = ((q.length + 1 : Nat) : Int) - 1
            · have h9 := hkk c hc (by rw [hlen]; exact hcl.2.2.2.1)
              have eb : c.b.toNat = q.length := by omega
              rw [getD_app_l (a := q ++ [(x : Int)]) (by rw [List.length_append, List.length_singleton]; omega), getD_app_l (a := q ++ [(x : Int)]) (by rw [List.length_append, List.length_singleton]; omega), eb] at h9
              rw [h9]
              simp
            · have : (c.b == ((q.length + 1 : Nat) : Int) - 1) = false := by rw [beq_eq_false_iff_ne]; exact he
              rw [this]; rfl
      exact key _ s
end Go.Proofs.YtidchfncfcckiaaGreat

namespace Go.Proofs.YtidchfncfcckiaaGreat
open Go.RowKit

noncomputable def partB (l : List Int) : Bool := @decide (RG l) (Classical.propDecidable _) && (decide (1 ≤ l.length) && decide (l.length ≤ 8))
theorem partB_iff {l : List Int} : partB l = true ↔ RG l ∧ 1 ≤ l.length ∧ l.length ≤ 8 := by
  unfold partB
  rw [Bool.and_eq_true, Bool.and_eq_true, @decide_eq_true_iff _ (Classical.propDecidable _), decide_eq_true_eq, decide_eq_true_eq]
theorem partB_no {l : List Int} (h : ¬ RG l) : partB l = false := by
  cases hb : partB l with
  | false => rfl
  | true => exact absurd (partB_iff.1 hb).1 h
theorem partB_rg {l : List Int} (h : RG l) : partB l = (decide (1 ≤ l.length) && decide (l.length ≤ 8)) := by
  rw [Bool.eq_iff_iff, partB_iff, Bool.and_eq_true, decide_eq_true_eq, decide_eq_true_eq]
  exact ⟨fun k => k.2, fun k => ⟨h, k⟩⟩
theorem RG.take {l : List Int} (h : RG l) (k : Nat) : RG (l.take k) := fun i hi => by
  rw [List.length_take] at hi
  have := h i (by omega)
  rw [List.take_take, show min i k = i by omega]
  rw [List.getD_eq_getElem?_getD, List.getElem?_take, if_pos (by omega), ← List.getD_eq_getElem?_getD]
  exact this
theorem RG.step {l : List Int} {k : Nat} (hk : k < l.length) (h : RG (l.take k)) (h0 : 0 ≤ l[k]) (h1 : l[k] ≤ nextOf (l.take k)) : RG (l.take (k + 1)) := by
  rw [List.take_succ_eq_append_getElem hk]; exact h.snoc h0 h1
theorem RG.bad {l : List Int} {k : Nat} (hk : k < l.length) (h : ¬ (0 ≤ l[k] ∧ l[k] ≤ nextOf (l.take k))) : ¬ RG l := fun hr => by
  have := hr k hk
  rw [getD_getElem hk] at this
  exact h this
theorem nextOf_take {l : List Int} {k : Nat} (hk : k < l.length) : nextOf (l.take (k + 1)) = max (nextOf (l.take k)) (l[k] + 1) := by
  rw [List.take_succ_eq_append_getElem hk, nextOf_snoc]
theorem RG.next_le {l : List Int} {k : Nat} (h : RG (l.take k)) (hk : k ≤ l.length) : 0 ≤ nextOf (l.take k) ∧ nextOf (l.take k) ≤ k := by
  have h1 := (RG.facts _ _ rfl h).1
  refine ⟨h1, ?_⟩
  have : ∀ (n : Nat) (l : List Int), l.length = n → RG l → nextOf l ≤ n := by
    intro n
    induction n with
    | zero =>
      intro l hl _
      have : l = [] := List.eq_nil_of_length_eq_zero hl
      subst this
      exact Int.le_refl _
    | succ n ih =>
      intro l hl hr
      rcases List.eq_nil_or_concat l with rfl | ⟨p, x, rfl⟩
      · simp at hl
      · rw [List.concat_eq_append] at hl hr ⊢
        obtain ⟨hp, x0, x1⟩ := hr.init
        have := ih p (by simpa using hl) hp
        rw [nextOf_snoc]
        omega
  have := this _ _ rfl h
  rw [List.length_take] at this
  omega
theorem RG.bd8 {l : List Int} (h : partB l = true) {i : Nat} (hi : i < l.length) : 0 ≤ l[i] ∧ l[i] < 8 := by
  obtain ⟨hr, h1, h8⟩ := partB_iff.1 h
  have h2 := hr.lt (List.getElem_mem hi)
  have h3 := RG.next_le (l := l) (k := l.length) (by rw [List.take_length]; exact hr) (Nat.le_refl _)
  rw [List.take_length] at h3
  omega

def joinR (a b : List Int) (i k : Nat) : Prop := i < a.length ∧ k < a.length ∧ (a.getD i 0 = a.getD k 0 ∨ b.getD i 0 = b.getD k 0)
def twoB (a b : List Int) : Prop := partB a = true ∧ partB b = true ∧ a.length = b.length
noncomputable def twoC (a b : List Int) : Bool := partB a && (partB b && decide (a.length = b.length))
theorem twoC_iff {a b : List Int} : twoC a b = true ↔ twoB a b := by
  unfold twoC twoB
  rw [Bool.and_eq_true, Bool.and_eq_true, decide_eq_true_eq]
noncomputable def joinP (a b : List Int) : List Int := if twoC a b then compL a.length (joinR a b) else []
theorem joinR_symm {a b : List Int} {i k : Nat} (h : joinR a b i k) : joinR a b k i := ⟨h.2.1, h.1, h.2.2.imp Eq.symm Eq.symm⟩
/-- the matrix that the program makes of it -/
def JoinM (a b : List Int) (i0 k0 : Nat) (M : List (List Int)) : Prop :=
  (M.length = a.length ∧ ∀ i, i < a.length → (M.getD i []).length = a.length) ∧ ∀ i k, i < a.length → k < a.length →
    (ent M i k = 1 ∧ ((i < i0 ∨ (i = i0 ∧ k < k0)) ∧ i ≠ k ∧ joinR a b i k)) ∨ (ent M i k = 0 ∧ ¬ ((i < i0 ∨ (i = i0 ∧ k < k0)) ∧ i ≠ k ∧ joinR a b i k))
theorem JoinM.fin {a b : List Int} {M : List (List Int)} (h : JoinM a b a.length 0 M) (h1 : 1 ≤ a.length) (h8 : a.length ≤ 8) : WM M ∧ posC M = compL a.length (joinR a b) := by
  obtain ⟨⟨hl, hr⟩, he⟩ := h
  have e : ∀ i k, i < a.length → k < a.length → (ent M i k = 1 ∧ i ≠ k ∧ joinR a b i k) ∨ (ent M i k = 0 ∧ ¬ (i ≠ k ∧ joinR a b i k)) := fun i k hi hk => by
    rcases he i k hi hk with ⟨h2, _, h3⟩ | ⟨h2, h3⟩
    · exact .inl ⟨h2, h3⟩
    · exact .inr ⟨h2, fun h4 => h3 ⟨.inl hi, h4⟩⟩
  have hw : WM M := by
    refine ⟨by omega, by omega, fun i hi => ?_, fun i k hi hk => ?_, fun i k hi hk => ?_, fun i hi => ?_⟩
    · rw [hl] at hi ⊢; exact hr i hi
    · rw [hl] at hi hk
      rcases e i k hi hk with ⟨h2, _⟩ | ⟨h2, _⟩ <;> omega
    · rw [hl] at hi hk
      rcases e i k hi hk with ⟨h2, h3, h4⟩ | ⟨h2, h3⟩ <;> rcases e k i hk hi with ⟨k2, k3, k4⟩ | ⟨k2, k3⟩
      · omega
      · exact absurd ⟨fun e => h3 e.symm, joinR_symm h4⟩ k3
      · exact absurd ⟨fun e => k3 e.symm, joinR_symm k4⟩ h3
      · omega
    · rw [hl] at hi
      rcases e i i hi hi with ⟨_, h3, _⟩ | ⟨h2, _⟩
      · exact absurd rfl h3
      · exact h2
  refine ⟨hw, ?_⟩
  unfold posC
  rw [if_pos (wmB_yes hw), hl]
  refine compL_congr fun i j _ _ => ⟨fun h => h.mono fun x y hxy => ?_, fun h => h.mono fun x y hxy => ?_⟩
  · obtain ⟨h2, h3, h4⟩ := hxy
    rw [hl] at h2 h3
    rcases e x y h2 h3 with ⟨_, _, h5⟩ | ⟨h5, _⟩
    · exact .one h5
    · omega
  · by_cases hxe : x = y
    · subst hxe; exact .refl
    · rcases e x y hxy.1 hxy.2.1 with ⟨h5, _⟩ | ⟨_, h5⟩
      · exact .one ⟨by rw [hl]; exact hxy.1, by rw [hl]; exact hxy.2.1, by omega⟩
      · exact absurd ⟨hxe, hxy⟩ h5
theorem joinP_yes {a b : List Int} (h : twoB a b) : joinP a b = compL a.length (joinR a b) := by unfold joinP; rw [if_pos (twoC_iff.2 h)]
theorem joinP_no {a b : List Int} (h : ¬ twoB a b) : joinP a b = [] := by unfold joinP; rw [if_neg fun k => h (twoC_iff.1 k)]
/-- components are a partition -/
theorem compL_part {n : Nat} {R : Nat → Nat → Prop} (h1 : 1 ≤ n) (h8 : n ≤ 8) : partB (compL n R) = true := by
  have := compL_is n R
  exact partB_iff.2 ⟨this.2.1, by rw [this.1]; exact h1, by rw [this.1]; exact h8⟩

/-- what is clustered apart -/
noncomputable def searchP (m : List (List Int)) (l : List Constraint) : List Int := if wmB m && areConB m.length l then joinP (posC m) (mustL m.length l) else []
theorem searchP_no {m : List (List Int)} {l : List Constraint} (h : ¬ (wmB m = true ∧ areConB m.length l = true)) : searchP m l = [] := by
  unfold searchP
  rw [if_neg fun k => h (by rwa [Bool.and_eq_true] at k)]
theorem two_parts {m : List (List Int)} {l : List Constraint} (h1 : wmB m = true) (h2 : areConB m.length l = true) : twoB (posC m) (mustL m.length l) := by
  have hw := wmB_iff.1 h1
  have e1 : posC m = compL m.length (linkM m) := by unfold posC; rw [if_pos h1]
  have e2 : mustL m.length l = compL m.length (mustR l) := by unfold mustL; rw [if_pos h2, Int.toNat_natCast]
  refine ⟨by rw [e1]; exact compL_part hw.n1 hw.n8, by rw [e2]; exact compL_part hw.n1 hw.n8, ?_⟩
  rw [e1, e2, (compL_is _ _).1, (compL_is _ _).1]
theorem searchP_yes {m : List (List Int)} {l : List Constraint} (h1 : wmB m = true) (h2 : areConB m.length l = true) : searchP m l = joinP (posC m) (mustL m.length l) := by
  unfold searchP
  rw [if_pos (by rw [Bool.and_eq_true]; exact ⟨h1, h2⟩)]
/-- two items are in one part if and only if a row of positive weights and must-links leads from one to the other -/
theorem searchP_facts {m : List (List Int)} {l : List Constraint} (h1 : wmB m = true) (h2 : areConB m.length l = true) : partB (searchP m l) = true ∧ (searchP m l).length = m.length ∧
    (∀ i k, i < m.length → k < m.length → 0 < ent m i k → (searchP m l).getD i 0 = (searchP m l).getD k 0) ∧
    ∀ i k, i < m.length → k < m.length → Conn (mustR l) i k → (searchP m l).getD i 0 = (searchP m l).getD k 0 := by
  have hw := wmB_iff.1 h1
  have ht := two_parts h1 h2
  have e1 : posC m = compL m.length (linkM m) := by unfold posC; rw [if_pos h1]
  have e2 : mustL m.length l = compL m.length (mustR l) := by unfold mustL; rw [if_pos h2, Int.toNat_natCast]
  have i1 := compL_is m.length (linkM m)
  have i2 := compL_is m.length (mustR l)
  have hl : (posC m).length = m.length := by rw [e1]; exact i1.1
  rw [searchP_yes h1 h2, joinP_yes ht]
  have hc := compL_is (posC m).length (joinR (posC m) (mustL m.length l))
  refine ⟨compL_part (by rw [hl]; exact hw.n1) (by rw [hl]; exact hw.n8), by rw [hc.1, hl], fun i k hi hk h => ?_, fun i k hi hk h => ?_⟩
  · refine (hc.2.2 i k (by rw [hl]; exact hi) (by rw [hl]; exact hk)).2 (.one ⟨by rw [hl]; exact hi, by rw [hl]; exact hk, .inl ?_⟩)
    rw [e1]
    exact (i1.2.2 i k hi hk).2 (.one ⟨hi, hk, h⟩)
  · refine (hc.2.2 i k (by rw [hl]; exact hi) (by rw [hl]; exact hk)).2 (.one ⟨by rw [hl]; exact hi, by rw [hl]; exact hk, .inr ?_⟩)
    rw [e2]
    exact (i2.2.2 i k hi hk).2 h

/-! ### Blocks -/
def blkSt (s : List (List Int)) (k : Nat) (x : Int) : List (List Int) :=
  let s1 := if x = s.length then s ++ [[]] else s
  s1.set x.toNat (s1.getD x.toNat [] ++ [(k : Int)])
def blkN (l : List Int) : Nat → List (List Int)
  | 0 => []
  | k + 1 => blkSt (blkN l k) k (l.getD k 0)
def blocksP (l : List Int) : List (List Int) := blkN l l.length
/-- the items of block x among the first k -/
def itemsOf (l : List Int) (k x : Nat) : List Int := ((List.range k).filter fun i => decide (l.getD i 0 = (x : Int))).map (fun i : Nat => (i : Int))
theorem itemsOf_succ (l : List Int) (k x : Nat) : itemsOf l (k + 1) x = if l.getD k 0 = (x : Int) then itemsOf l k x ++ [(k : Int)] else itemsOf l k x := by
  unfold itemsOf
  rw [List.range_succ, List.filter_append, List.map_append]
  by_cases h : l.getD k 0 = (x : Int)
  · rw [if_pos h, List.filter_cons_of_pos (by simpa using h)]; rfl
  · rw [if_neg h, List.filter_cons_of_neg (by simpa using h)]; simp
theorem blkN_facts {l : List Int} (h : RG l) : ∀ k, k ≤ l.length → ((blkN l k).length : Int) = nextOf (l.take k) ∧ ∀ x, x < (blkN l k).length → (blkN l k).getD x [] = itemsOf l k x
  | 0, _ => ⟨rfl, fun x hx => by cases hx⟩
  | k + 1, hk => by
    obtain ⟨h1, h2⟩ := blkN_facts h k (by omega)
    have hlt : k < l.length := by omega
    have hx := h k hlt
    have hn := nextOf_take hlt
    rw [← getD_getElem (d := 0) hlt] at hn
    obtain ⟨x, hxe⟩ : ∃ x : Nat, l.getD k 0 = x := ⟨(l.getD k 0).toNat, by omega⟩
    show ((blkSt (blkN l k) k (l.getD k 0)).length : Int) = _ ∧ ∀ y, y < (blkSt (blkN l k) k (l.getD k 0)).length → (blkSt (blkN l k) k (l.getD k 0)).getD y [] = _
    rw [hn]
    obtain ⟨s, hs⟩ : ∃ s, s = blkN l k := ⟨_, rfl⟩
    rw [← hs] at h1 h2 ⊢
    rw [hxe] at hx ⊢
    unfold blkSt
    simp only [Int.toNat_natCast]
    by_cases e : (x : Int) = s.length
    · rw [if_pos e]
      have hxs : x = s.length := by omega
      have hlen : x < (s ++ [([] : List Int)]).length := by simp; omega
      refine ⟨by rw [List.length_set, List.length_append, List.length_singleton]; omega, fun y hy => ?_⟩
      rw [getD_set _ _ _ _ hlen, itemsOf_succ, hxe]
      by_cases hyx : y = x
      · subst hyx
        rw [if_pos rfl, if_pos rfl]
        congr 1
        rw [hxs, getD_app_at]
        have : itemsOf l k y = [] := by
          unfold itemsOf
          rw [List.map_eq_nil_iff, List.filter_eq_nil_iff]
          intro i hi
          have hi := List.mem_range.1 hi
          have h9 := (h.take k).lt (x := l.getD i 0) (by
            rw [show l.getD i 0 = (l.take k).getD i 0 from by rw [List.getD_eq_getElem?_getD, List.getD_eq_getElem?_getD, List.getElem?_take, if_pos hi]]
            exact getD_mem (by rw [List.length_take]; omega))
          simp only [decide_eq_true_eq]
          omega
        rw [← hxs, this]
      · rw [if_neg hyx, if_neg (by omega)]
        rw [List.length_set, List.length_append, List.length_singleton] at hy
        rw [getD_app_l (by omega)]
        exact h2 y (by omega)
    · rw [if_neg e]
      have hlen : x < s.length := by omega
      refine ⟨by rw [List.length_set]; omega, fun y hy => ?_⟩
      rw [getD_set _ _ _ _ hlen, itemsOf_succ, hxe]
      rw [List.length_set] at hy
      by_cases hyx : y = x
      · subst hyx
        rw [if_pos rfl, if_pos rfl, h2 y hy]
      · rw [if_neg hyx, if_neg (by omega)]
        exact h2 y hy
theorem blkN_len {l : List Int} (h : RG l) {k : Nat} (hk : k ≤ l.length) : (blkN l k).length ≤ k := by
  have h1 := (blkN_facts h k hk).1
  have h2 := RG.next_le (h.take k) hk
  omega
end Go.Proofs.YtidchfncfcckiaaGreat

namespace Go.Proofs.YtidchfncfcckiaaGreat
open Go.RowKit

def setE (m : List (List Int)) (i k : Nat) (x : Int) : List (List Int) := m.set i ((m.getD i []).set k x)
def Sq (n : Nat) (m : List (List Int)) : Prop := m.length = n ∧ ∀ i, i < n → (m.getD i []).length = n
theorem getD_setL (m : List (List Int)) (i j : Nat) (x : List Int) (h : i < m.length) : (m.set i x).getD j [] = if j = i then x else m.getD j [] := getD_set m i j x h
theorem Sq.set {n : Nat} {m : List (List Int)} (h : Sq n m) {i k : Nat} (hi : i < n) (x : Int) : Sq n (setE m i k x) := by
  refine ⟨by unfold setE; rw [List.length_set]; exact h.1, fun a ha => ?_⟩
  unfold setE
  rw [getD_setL _ _ _ _ (by rw [h.1]; exact hi)]
  split
  · rw [List.length_set]; exact h.2 i hi
  · exact h.2 a ha
theorem ent_set {n : Nat} {m : List (List Int)} (h : Sq n m) {i k : Nat} (hi : i < n) (hk : k < n) (x : Int) (a b : Nat) : ent (setE m i k x) a b = if a = i ∧ b = k then x else ent m a b := by
  unfold ent setE
  rw [getD_setL _ _ _ _ (by rw [h.1]; exact hi)]
  by_cases ha : a = i
  · subst ha
    rw [if_pos rfl, getD_set _ _ _ _ (by rw [h.2 a hi]; exact hk)]
    by_cases hb : b = k
    · rw [if_pos hb, if_pos ⟨rfl, hb⟩]
    · rw [if_neg hb, if_neg fun e => hb e.2]
  · rw [if_neg ha, if_neg fun e => ha e.1]
def sqM (n : Nat) : List (List Int) := List.replicate n (List.replicate n 0)
theorem sqM_sq (n : Nat) : Sq n (sqM n) := by
  refine ⟨List.length_replicate, fun i hi => ?_⟩
  unfold sqM
  rw [getD_getElem (by rw [List.length_replicate]; exact hi), List.getElem_replicate, List.length_replicate]
theorem sqM_ent {n i k : Nat} (hi : i < n) (hk : k < n) : ent (sqM n) i k = 0 := by
  unfold ent sqM
  rw [getD_getElem (a := List.replicate n (List.replicate n 0)) (by rw [List.length_replicate]; exact hi), List.getElem_replicate, getD_getElem (by rw [List.length_replicate]; exact hk), List.getElem_replicate]
def mustSt (m : List (List Int)) (c : Constraint) : List (List Int) := if c.same = true then setE (setE m c.a.toNat c.b.toNat 1) c.b.toNat c.a.toNat 1 else m
def mustM (n : Nat) (l : List Constraint) : List (List Int) := l.foldl mustSt (sqM n)
theorem mustM_ent (n : Nat) : ∀ (q : Nat) (l : List Constraint), l.length = q → (∀ c ∈ l, 0 ≤ c.a ∧ c.a < n ∧ 0 ≤ c.b ∧ c.b < n ∧ c.a < c.b) →
    Sq n (mustM n l) ∧ ∀ i k, i < n → k < n → (ent (mustM n l) i k = 1 ∧ mustR l i k) ∨ (ent (mustM n l) i k = 0 ∧ ¬ mustR l i k)
  | 0, l, h, _ => by
    have : l = [] := List.eq_nil_of_length_eq_zero h
    subst this
    exact ⟨sqM_sq n, fun i k hi hk => .inr ⟨sqM_ent hi hk, fun ⟨c, hc, _⟩ => by cases hc⟩⟩
  | q + 1, l, h, hl => by
    rcases List.eq_nil_or_concat l with rfl | ⟨p, c, rfl⟩
    · simp at h
    · rw [List.concat_eq_append] at h hl ⊢
      obtain ⟨h1, h2⟩ := mustM_ent n q p (by simpa using h) fun x hx => hl x (List.mem_append_left _ hx)
      have hc := hl c (List.mem_append_right _ (List.mem_singleton_self c))
      have hsplit : ∀ i k, mustR (p ++ [c]) i k ↔ mustR p i k ∨ (c.same = true ∧ ((c.a = (i : Int) ∧ c.b = (k : Int)) ∨ (c.a = (k : Int) ∧ c.b = (i : Int)))) := fun i k => by
        constructor
        · rintro ⟨x, hx, hs, he⟩
          rcases List.mem_append.1 hx with hx | hx
          · exact .inl ⟨x, hx, hs, he⟩
          · rw [List.mem_singleton] at hx; subst hx; exact .inr ⟨hs, he⟩
        · rintro (⟨x, hx, hs, he⟩ | ⟨hs, he⟩)
          · exact ⟨x, List.mem_append_left _ hx, hs, he⟩
          · exact ⟨c, List.mem_append_right _ (List.mem_singleton_self c), hs, he⟩
      have e : mustM n (p ++ [c]) = mustSt (mustM n p) c := by unfold mustM; rw [List.foldl_append]; rfl
      rw [e]
      unfold mustSt
      by_cases hs : c.same = true
      · rw [if_pos hs]
        have ha : c.a.toNat < n := by omega
        have hb : c.b.toNat < n := by omega
        have s1 := h1.set (k := c.b.toNat) ha 1
        refine ⟨s1.set hb 1, fun i k hi hk => ?_⟩
        rw [ent_set s1 hb ha, ent_set h1 ha hb, hsplit]
        by_cases e1 : i = c.b.toNat ∧ k = c.a.toNat
        · rw [if_pos e1]
          exact .inl ⟨rfl, .inr ⟨hs, .inr ⟨by omega, by omega⟩⟩⟩
        · rw [if_neg e1]
          by_cases e2 : i = c.a.toNat ∧ k = c.b.toNat
          · rw [if_pos e2]
            exact .inl ⟨rfl, .inr ⟨hs, .inl ⟨by omega, by omega⟩⟩⟩
          · rw [if_neg e2]
            rcases h2 i k hi hk with ⟨h3, h4⟩ | ⟨h3, h4⟩
            · exact .inl ⟨h3, .inl h4⟩
            · refine .inr ⟨h3, ?_⟩
              rintro (h5 | ⟨_, h5⟩)
              · exact h4 h5
              · rcases h5 with h5 | h5
                · exact e2 (by omega)
                · exact e1 (by omega)
      · rw [if_neg hs]
        refine ⟨h1, fun i k hi hk => ?_⟩
        rw [hsplit]
        rcases h2 i k hi hk with ⟨h3, h4⟩ | ⟨h3, h4⟩
        · exact .inl ⟨h3, .inl h4⟩
        · exact .inr ⟨h3, fun h5 => h5.elim h4 fun h5 => hs h5.1⟩
theorem mustM_facts {n : Int} {l : List Constraint} (h : areConB n l = true) : WM (mustM n.toNat l) ∧ (mustM n.toNat l).length = n.toNat ∧ linkM (mustM n.toNat l) = mustR l := by
  obtain ⟨h1, h8, _, h4⟩ := areCon_iff.1 h
  obtain ⟨hs, he⟩ := mustM_ent n.toNat _ l rfl fun c hc => by have := h4 c hc; omega
  have hw : WM (mustM n.toNat l) := by
    refine ⟨by rw [hs.1]; omega, by rw [hs.1]; omega, fun i hi => by rw [hs.1]; exact hs.2 i (by rw [← hs.1]; exact hi), fun i k hi hk => ?_, fun i k hi hk => ?_, fun i hi => ?_⟩
    · rw [hs.1] at hi hk
      rcases he i k hi hk with ⟨h, _⟩ | ⟨h, _⟩ <;> omega
    · rw [hs.1] at hi hk
      rcases he i k hi hk with ⟨h, k1⟩ | ⟨h, k1⟩ <;> rcases he k i hk hi with ⟨h', k2⟩ | ⟨h', k2⟩
      · omega
      · exact absurd (mustR_symm k1) k2
      · exact absurd (mustR_symm k2) k1
      · omega
    · rw [hs.1] at hi
      rcases he i i hi hi with ⟨_, ⟨c, hc, _, h⟩⟩ | ⟨h, _⟩
      · have := h4 c hc
        rcases h with h | h <;> omega
      · exact h
  refine ⟨hw, hs.1, ?_⟩
  funext i k
  apply propext
  unfold linkM
  constructor
  · rintro ⟨hi, hk, h0⟩
    rw [hs.1] at hi hk
    rcases he i k hi hk with ⟨_, k1⟩ | ⟨h, _⟩
    · exact k1
    · omega
  · intro hr
    obtain ⟨hi, hk⟩ := mustR_lt h hr
    rcases he i k hi hk with ⟨h, _⟩ | ⟨_, k1⟩
    · exact ⟨by rw [hs.1]; exact hi, by rw [hs.1]; exact hk, by omega⟩
    · exact absurd hr k1
theorem mustM_pos {n : Int} {l : List Constraint} (h : areConB n l = true) : posC (mustM n.toNat l) = mustL n l := by
  obtain ⟨h1, h2, h3⟩ := mustM_facts h
  unfold posC mustL
  rw [if_pos (wmB_yes h1), if_pos h, h2, h3]
end Go.Proofs.YtidchfncfcckiaaGreat

namespace Go.Proofs.YtidchfncfcckiaaGreat
open Go.RowKit

set_option maxHeartbeats 400000 in
theorem impl_isItem (x n : Int) (w : World) (h1 : -9223372036854775807 ≤ n) (h2 : n ≤ 9223372036854775807) :
    Calls Tryz.prog 110 #[.int .i64 x, .int .i64 n] w fun e w2 => e = .returned (.bool (inB x 0 (n - 1))) ∧ w = w2 := by
  have HW := hid (fun (W : World) => impl_within x 0 (n - 1) W)
  go_enter Tryz.func110, Tryz.ntmps110
  go_wp2_with fail
  refine (HW.out _).mono ?_
  rintro e w2 ⟨rfl, rfl⟩
  go_wp2
  go_ret
  exact ⟨rfl, rfl⟩

set_option maxHeartbeats 400000 in
set_option maxRecDepth 20000 in
theorem slices_IndexFunc_kA (u : Value) (p : Constraint → Bool) (v : Value) (xs : List Constraint) (w : World) (h : Sl constraintR w v xs)
    (hf : ∀ W, Ext w W → ∀ c ∈ xs, Calls Tryz.prog 109 #[.agg #[.int .i64 c.a, .int .i64 c.b, .bool c.same], u] W fun e w2 => e = .returned (.bool (p c)) ∧ Ext W w2) :
    Calls Tryz.prog 134 #[v, .func (.func 109) #[] #[u]] w fun e w2 =>
      e = .returned (.int .i64 (idxF p 0 xs)) ∧ Ext w w2 := by
  obtain ⟨A, cap, rfl, hm⟩ := h.form
  have HF := hid hf
  clear hf
  go_enter Tryz.func134, Tryz.ntmps134
  go_wp2
  go_loopw [8] (fun i wr => ∃ k : Nat, k ≤ xs.length ∧ i = .int .i64 k ∧ (∀ y ∈ xs.take k, p y = false) ∧ Ext w wr) (fun i _ => xs.length - (intOf i).toNat)
  case atStart => exact ⟨0, Nat.zero_le _, rfl, by simp, Ext.refl _⟩
  case round =>
    obtain ⟨k, hk, rfl, hz, hx⟩ := hrel
    have HZ := hid hz
    clear hz
    by_cases hlt : k < xs.length
    · obtain ⟨b, off, eA, hokk, c0, c1, c2⟩ := (h.mono hx).constraint hlt
      subst eA
      obtain ⟨r, hr⟩ : ∃ r, r = p xs[k] := ⟨_, rfl⟩
      have HC := hid (show Calls Tryz.prog 109 #[.agg #[.int .i64 xs[k].a, .int .i64 xs[k].b, .bool xs[k].same], u] wr fun e w2 => e = .returned (.bool r) ∧ Ext wr w2 from by rw [hr]; exact HF.out wr hx xs[k] (List.getElem_mem hlt))
      have HR := hid hr
      clear hr hokk
      cases r with
      | true =>
        go_wp2_with (go_at_call 109; refine (HC.out).mono ?_; rintro e w2 ⟨rfl, x2⟩)
        go_ret
        exact ⟨ret_int (idxF_at p xs k hlt HZ.out HR.out.symm).symm, hx.trans x2⟩
      | false =>
        go_wp2_with (go_at_call 109; refine (HC.out).mono ?_; rintro e w2 ⟨rfl, x2⟩)
        go_roundw
        case rel => exact ⟨k + 1, by omega, by go_num, take_snoc_all _ xs k hlt HZ.out HR.out.symm, hx.trans x2⟩
        case measure => simp [intOf]; omega
    · go_wp2
      go_ret
      exact ⟨ret_int (idxF_all p xs k hlt HZ.out).symm, hx⟩
theorem slices_ContainsFunc_kA (u : Value) (p : Constraint → Bool) (v : Value) (xs : List Constraint) (w : World) (h : Sl constraintR w v xs)
    (hf : ∀ W, Ext w W → ∀ c ∈ xs, Calls Tryz.prog 109 #[.agg #[.int .i64 c.a, .int .i64 c.b, .bool c.same], u] W fun e w2 => e = .returned (.bool (p c)) ∧ Ext W w2) :
    Calls Tryz.prog 108 #[v, .func (.func 109) #[] #[u]] w fun e w2 =>
      e = .returned (.bool (xs.any p)) ∧ Ext w w2 := by
  have HI := hid (slices_IndexFunc_kA u p v xs w h hf)
  have HA := hid (idxF_any p xs 0)
  clear h hf
  go_enter Tryz.func108, Tryz.ntmps108
  go_wp2_with fail
  refine (HI.out).mono ?_
  rintro e w2 ⟨rfl, x2⟩
  go_wp2
  go_ret
  exact ⟨ret_bool HA.out, x2⟩


set_option maxHeartbeats 400000 in
set_option maxRecDepth 20000 in
theorem impl_AreCon1 (c : Constraint) (g : Nat) (n : Int) (w : World) (hc : w.cell? ⟨g, 0, none⟩ = some (.int .i64 n)) (hn : 1 ≤ n ∧ n ≤ 8) :
    Calls Tryz.prog 109 #[.agg #[.int .i64 c.a, .int .i64 c.b, .bool c.same], .pointer (some ⟨g, 0, none⟩)] w fun e w2 => e = .returned (.bool (!conOk n c)) ∧ Ext w w2 := by
  have HA := hid (fun (W : World) => impl_isItem c.a n W (by omega) (by omega))
  have HB := hid (fun (W : World) => impl_isItem c.b n W (by omega) (by omega))
  have HO := hid (show conOk n c = (inB c.a 0 (n - 1) && inB c.b 0 (n - 1) && decide (c.a < c.b)) from by
    unfold conOk inB
    rw [Bool.eq_iff_iff]
    simp only [Bool.and_eq_true, decide_eq_true_eq]
    omega)
  have hx : Ext w (w.alloc (.cells #[.int .i64 c.a, .int .i64 c.b, .bool c.same] 79)) := (Ext.refl _).alloc _
  have c1 := hx.cell hc
  rw [HO.out]
  obtain ⟨p, hp⟩ : ∃ p, p = inB c.a 0 (n - 1) := ⟨_, rfl⟩
  obtain ⟨q, hq⟩ : ∃ q, q = inB c.b 0 (n - 1) := ⟨_, rfl⟩
  rw [← hp] at HA ⊢
  rw [← hq] at HB ⊢
  clear hp hq HO hc
  cases p with
  | false =>
    go_enter Tryz.func109, Tryz.ntmps109
    go_wp2_with fail
    refine (HA.out _).mono ?_
    rintro e w2 ⟨rfl, rfl⟩
    go_wp2
    go_ret
    exact ⟨rfl, hx⟩
  | true =>
    cases q with
    | false =>
      go_enter Tryz.func109, Tryz.ntmps109
      go_wp2_with fail
      refine (HA.out _).mono ?_
      rintro e w2 ⟨rfl, rfl⟩
      go_wp2_with fail
      refine (HB.out _).mono ?_
      rintro e w2 ⟨rfl, rfl⟩
      go_wp2
      go_ret
      exact ⟨rfl, hx⟩
    | true =>
      by_cases hab : c.a < c.b
      · have hd : decide (c.a < c.b) = true := by simp [hab]
        have hd2 : decide (c.b ≤ c.a) = false := by simp; omega
        rw [hd]
        clear hab
        go_enter Tryz.func109, Tryz.ntmps109
        go_wp2_with fail
        refine (HA.out _).mono ?_
        rintro e w2 ⟨rfl, rfl⟩
        go_wp2_with fail
        refine (HB.out _).mono ?_
        rintro e w2 ⟨rfl, rfl⟩
        go_wp2
        go_ret
        exact ⟨rfl, hx⟩
      · have hd : decide (c.a < c.b) = false := by simp [hab]
        have hd2 : decide (c.b ≤ c.a) = true := by simp; omega
        rw [hd]
        clear hab
        go_enter Tryz.func109, Tryz.ntmps109
        go_wp2_with fail
        refine (HA.out _).mono ?_
        rintro e w2 ⟨rfl, rfl⟩
        go_wp2_with fail
        refine (HB.out _).mono ?_
        rintro e w2 ⟨rfl, rfl⟩
        go_wp2
        go_ret
        exact ⟨rfl, hx⟩

set_option maxHeartbeats 400000 in
set_option maxRecDepth 20000 in
theorem impl_AreConstraints (n : Int) (v : Value) (l : List Constraint) (w : World) (h : Sl constraintR w v l) :
    Calls Tryz.prog 55 #[.int .i64 n, v] w fun e w2 => e = .returned (.bool (areConB n l)) ∧ Ext w w2 := by
  obtain ⟨A, cap, rfl, hm⟩ := h.form
  have hx : Ext w (w.alloc (.cells #[.int .i64 n] 3)) := (Ext.refl _).alloc _
  have HW := hid (fun (W : World) => impl_within n 1 8 W)
  by_cases hn : 1 ≤ n ∧ n ≤ 8
  · have hin : inB n 1 8 = true := by unfold inB; rw [decide_eq_true_eq]; exact hn
    rw [hin] at HW
    by_cases hl : l.length ≤ 10
    · have HE := hid (show areConB n l = !(l.any fun c => !conOk n c) from by
        unfold areConB
        rw [decide_eq_true hn.1, decide_eq_true hn.2, decide_eq_true hl, Bool.true_and, Bool.true_and, Bool.true_and, List.not_any_eq_all_not]
        simp)
      have HC := hid (slices_ContainsFunc_kA (.pointer (some ⟨w.heap.size, 0, none⟩)) (fun c => !conOk n c) _ l _ (h.mono hx) fun W y c _ => impl_AreCon1 c w.heap.size n W (y.box.1 0) hn)
      clear hn hin h
      go_enter Tryz.func55, Tryz.ntmps55
      go_wp2_with fail
      refine (HW.out _).mono ?_
      rintro e w2 ⟨rfl, rfl⟩
      go_wp2_with fail
      refine (HC.out).mono ?_
      rintro e w2 ⟨rfl, x2⟩
      go_wp2
      go_ret
      exact ⟨ret_bool HE.out.symm, hx.trans x2⟩
    · have HE := hid (show areConB n l = false from by
        unfold areConB
        rw [decide_eq_false hl]; simp)
      have hl2 : (10 : Int) < (l.length : Int) := by omega
      clear hn hin h hl
      go_enter Tryz.func55, Tryz.ntmps55
      go_wp2_with fail
      refine (HW.out _).mono ?_
      rintro e w2 ⟨rfl, rfl⟩
      go_wp2
      go_ret
      exact ⟨ret_bool HE.out.symm, hx⟩
  · have hin : inB n 1 8 = false := by unfold inB; rw [decide_eq_false_iff_not]; exact hn
    rw [hin] at HW
    have HE := hid (show areConB n l = false from by
      cases hb : areConB n l with
      | false => rfl
      | true => have := areCon_iff.1 hb; omega)
    clear hn hin h
    go_enter Tryz.func55, Tryz.ntmps55
    go_wp2_with fail
    refine (HW.out _).mono ?_
    rintro e w2 ⟨rfl, rfl⟩
    go_wp2
    go_ret
    exact ⟨ret_bool HE.out.symm, hx⟩
end Go.Proofs.YtidchfncfcckiaaGreat

namespace Go.Proofs.YtidchfncfcckiaaGreat
open Go.RowKit

theorem Bld.stayJ {w w2 : World} {base : Nat} {e : TypeId} {v : Value} {xs : List Int} (h : Bld intO w base e v xs []) (hk : ∀ b, v.ownBlock = some b → w2.heap[b]? = w.heap[b]?) : Bld intO w2 base e v xs [] := by
  obtain ⟨cs, h1, h2, h3, h4, h5⟩ := h
  refine ⟨cs, ⟨h1.1, ?_⟩, h2.keep (fun b hb => by cases hb), h3, h4, h5⟩
  rcases h1.2 with h | ⟨g', cap, cur, rfl, hb, hh, hr⟩
  · exact .inl h
  · exact .inr ⟨g', cap, cur, rfl, hb, (hk g' rfl).trans hh, hr⟩
/-- a row that can grow -/
def growO (base : Nat) (e : TypeId) : RepO (List Int) :=
  { slR intR with
    own := fun w cs xs F => ∃ v, cs = [v] ∧ Bld intO w base e v xs [] ∧ F = v.ownBlock.toList
    own_rd := fun ⟨v, h, k, _⟩ => ⟨v, h, k.sl⟩
    own_lt := fun ⟨v, _, k, hF⟩ b hb => by
      rw [hF, Option.mem_toList] at hb
      exact (k.lt.2 b hb).1
    own_keep := fun hk ⟨v, h, k, hF⟩ => ⟨v, h, k.stayJ fun b hb => hk b (by rw [hF, Option.mem_toList]; exact hb), hF⟩ }
theorem grow_nil (w : World) (base : Nat) (e : TypeId) : (growO base e).own w (#[Value.slice none 0 0] : Array Value).toList [] [] := ⟨_, rfl, Bld.nil _ _ _, rfl⟩
theorem OwnCells.grow {base : Nat} {e : TypeId} : ∀ {xs : List (List Int)} {cs : List Value} {F : List Nat} {w : World}, OwnCells (growO base e) w cs xs F → ∀ b ∈ F, base ≤ b
  | [], _, _, _, h, b, hb => by rw [h.2] at hb; cases hb
  | x :: xs, _, _, _, ⟨c, d, F1, F2, h1, h2, ⟨v, _, k, hF⟩, h4⟩, b, hb => by
    rw [h2] at hb
    rcases List.mem_append.1 hb with hb | hb
    · rw [hF, Option.mem_toList] at hb
      exact (k.lt.2 b hb).2
    · exact OwnCells.grow h4 b hb
/-- row i: where it lies, what stands behind a change of it -/
theorem Bld.row {w : World} {base : Nat} {e e2 : TypeId} {v : Value} {rows : List (List Int)} {F : List Nat} (h : Bld (growO base e) w base e2 v rows F) {i : Nat} (hi : i < rows.length) :
    ∃ g cap vi, v = .slice (some ⟨g, 0, none⟩) rows.length cap ∧ base ≤ g ∧ g < w.heap.size ∧ w.cell? ⟨g, i, none⟩ = some vi ∧ (∀ o, w.frozen? ⟨g, o, none⟩ = false) ∧ Bld intO w base e vi (rows.getD i []) [] ∧ vi.ownBlock ≠ some g ∧
      (∀ w2 v' x', (∀ b, b < w.heap.size → vi.ownBlock ≠ some b → w2.heap[b]? = w.heap[b]?) → Bld intO w2 base e v' x' [] → (∀ b, v'.ownBlock = some b → vi.ownBlock = some b ∨ w.heap.size ≤ b) →
        w2.cell? ⟨g, i, none⟩ = some vi ∧ w2.frozen? ⟨g, i, none⟩ = false ∧ ∃ F', Bld (growO base e) (w2.setCell ⟨g, i, none⟩ v') base e2 v (rows.set i x') F') := by
  have hlt := h.lt
  obtain ⟨cs, h1, h2, h3, h4, h5⟩ := h
  rcases h1.2 with ⟨_, hn⟩ | ⟨g, cap, cur, rfl, hb, hh, hnc, hcm, hcs, htake⟩
  · omega
  · obtain ⟨c0, c, c1, F0, F1, F2, rfl, rfl, l0, l1, k0, ⟨vi, rfl, kb, hF1⟩, k2⟩ := h2.split i hi
    have hn1 : (growO base e).n = 1 := rfl
    rw [hn1, Nat.mul_one] at l0
    rw [hn1, Nat.mul_one] at hcs htake
    have hgs := block_lt hh
    have hcell : w.cell? ⟨g, i, none⟩ = some vi := by
      rw [cell_of_row w g i cur e2 (0, 0) hh]
      have hx : (cur.toList.take rows.length)[i]? = some vi := by
        rw [htake, List.getElem?_append_right (by omega), l0, Nat.sub_self]; rfl
      rw [List.getElem?_take, if_pos hi] at hx
      simpa using hx
    have hvg : vi.ownBlock ≠ some g := fun e9 => h3 g rfl (List.mem_append_right _ (List.mem_append_left _ (by rw [hF1, Option.mem_toList]; exact e9)))
    have hgd : rows.getD i [] = rows[i] := by rw [List.getD_eq_getElem?_getD, List.getElem?_eq_getElem hi]; rfl
    refine ⟨g, cap, vi, rfl, hb, hgs, hcell, fun o => frozen_of_row w g o cur e2 hh, by rw [hgd]; exact kb, hvg, fun w2 v' x' hk hB hv' => ?_⟩
    have hh2 : w2.heap[g]? = some (.cells cur e2 (0, 0)) := (hk g hgs hvg).trans hh
    refine ⟨(cell_of_same (hk g hgs hvg) i).trans hcell, frozen_of_row w2 g i cur e2 hh2, ?_⟩
    have hN := List.nodup_append.1 h4
    have hN2 := List.nodup_append.1 hN.2.1
    have hdis : ∀ b, b ∈ F0 ∨ b ∈ F2 → vi.ownBlock ≠ some b := fun b hb9 e9 => by
      have hm : b ∈ F1 := by rw [hF1, Option.mem_toList]; exact e9
      rcases hb9 with hb9 | hb9
      · exact hN.2.2 b hb9 b (List.mem_append_left _ hm) rfl
      · exact hN2.2.2 b hm b hb9 rfl
    have hltF : ∀ b, b ∈ F0 ∨ b ∈ F2 → b < w.heap.size := fun b hb9 => hlt.1 b (by
      rcases hb9 with hb9 | hb9
      · exact List.mem_append_left _ hb9
      · exact List.mem_append_right _ (List.mem_append_right _ hb9))
    have hneg : ∀ b, b ∈ F0 ∨ b ∈ F2 → b ≠ g := fun b hb9 e9 => h3 g rfl (by
      subst e9
      rcases hb9 with hb9 | hb9
      · exact List.mem_append_left _ hb9
      · exact List.mem_append_right _ (List.mem_append_right _ hb9))
    have hv'g : ∀ b, v'.ownBlock = some b → b ≠ g := fun b hb9 e9 => by
      subst e9
      rcases hv' b hb9 with h9 | h9
      · exact hvg h9
      · omega
    obtain ⟨w3, hw3⟩ : ∃ w3, w3 = w2.setCell ⟨g, i, none⟩ v' := ⟨_, rfl⟩
    have hk3 : ∀ b, b ≠ g → w3.heap[b]? = w2.heap[b]? := fun b hb9 => by rw [hw3]; exact keep_setCell hb9
    have q0 := k0.keep (w2 := w3) fun b hb9 => (hk3 b (hneg b (.inl hb9))).trans (hk b (hltF b (.inl hb9)) (hdis b (.inl hb9)))
    have q2 := k2.keep (w2 := w3) fun b hb9 => (hk3 b (hneg b (.inr hb9))).trans (hk b (hltF b (.inr hb9)) (hdis b (.inr hb9)))
    have q1 : (growO base e).own w3 [v'] x' v'.ownBlock.toList := ⟨v', rfl, hB.stayJ fun b hb9 => hk3 b (hv'g b hb9), rfl⟩
    rw [← hw3]
    have hcl : c0.length + 1 + c1.length = rows.length := by
      have := congrArg List.length htake
      simp only [List.length_take, List.length_append, List.length_singleton, Array.length_toList] at this
      omega
    refine ⟨F0 ++ (v'.ownBlock.toList ++ F2), c0 ++ ([v'] ++ c1), ⟨?_, .inr ⟨g, cap, cur.setIfInBounds i v', by rw [List.length_set], hb, ?_, by rw [List.length_set]; exact hnc, hcm, by rw [hn1, Nat.mul_one, Array.size_setIfInBounds]; exact hcs, ?_⟩⟩, OwnCells.join hi q0 q1 q2, fun g9 hg9 hm => ?_, ?_, fun b hb9 => ?_⟩
    · rw [List.length_set, hn1, Nat.mul_one]; simp only [List.length_append, List.length_singleton]; omega
    · rw [hw3]; exact heap_setCell_same w2 g i cur e2 v' hh2
    · rw [List.length_set, hn1, Nat.mul_one, Array.toList_setIfInBounds, List.take_set, htake, List.set_append_right _ _ (by omega), l0, Nat.sub_self]
      rfl
    · injection hg9 with hg9
      subst hg9
      rcases List.mem_append.1 hm with hm | hm
      · exact hneg _ (.inl hm) rfl
      · rcases List.mem_append.1 hm with hm | hm
        · exact hv'g _ (Option.mem_toList.1 hm) rfl
        · exact hneg _ (.inr hm) rfl
    · have hv0 : ∀ b, b ∈ F0 ∨ b ∈ F2 → b ∉ v'.ownBlock.toList := fun b hb9 hm => by
        rcases hv' b (Option.mem_toList.1 hm) with h9 | h9
        · exact hdis b hb9 h9
        · have := hltF b hb9; omega
      refine List.nodup_append.2 ⟨hN.1, List.nodup_append.2 ⟨by cases v'.ownBlock <;> simp, hN2.2.1, fun a ha b hb9 e9 => hv0 b (.inr hb9) (e9 ▸ ha)⟩, fun a ha b hb9 e9 => ?_⟩
      subst e9
      rcases List.mem_append.1 hb9 with hb9 | hb9
      · exact hv0 a (.inl ha) hb9
      · exact hN.2.2 a ha a (List.mem_append_right _ hb9) rfl
    · rcases List.mem_append.1 hb9 with hb9 | hb9
      · exact h5 b (List.mem_append_left _ hb9)
      · rcases List.mem_append.1 hb9 with hb9 | hb9
        · exact (hB.lt.2 b (Option.mem_toList.1 hb9)).2
        · exact h5 b (List.mem_append_right _ (List.mem_append_right _ hb9))
/-- a table of rows is data of its own -/
theorem OwnCells.growDone {base : Nat} {e : TypeId} {w : World} : ∀ {xs : List (List Int)} {cs : List Value} {F : List Nat}, OwnCells (growO base e) w cs xs F → OwnCells (slO intO) w cs xs F
  | [], _, _, h => h
  | x :: xs, _, _, ⟨c, d, F1, F2, h1, h2, ⟨v, hc, k, hF⟩, h4⟩ => by
    refine ⟨c, d, F1, F2, h1, h2, ⟨v, hc, ?_⟩, OwnCells.growDone h4⟩
    obtain ⟨cs, b1, b2, b3, b4, b5⟩ := k
    rcases b1.2 with ⟨rfl, hn⟩ | ⟨g, cap, cur, rfl, hb, hh, hnc, hcm, hcs, htake⟩
    · have : x = [] := List.eq_nil_of_length_eq_zero hn
      exact .inl ⟨this, hF, none, 0, rfl, Nat.zero_le _⟩
    · refine .inr ⟨g, 0, cap, cur, e, [], rfl, ⟨hnc, hcm⟩, hh, hF, ?_, by rw [List.drop_zero, htake]; exact b2⟩
      rw [hcs, Nat.zero_add]; exact Nat.mul_le_mul_right _ hnc
theorem Bld.growDone {w : World} {base : Nat} {e e2 : TypeId} {v : Value} {rows : List (List Int)} {F : List Nat} (h : Bld (growO base e) w base e2 v rows F) : ∃ F', OwnSl (slO intO) w v rows F' ∧ F'.Nodup ∧ ∀ b ∈ F', base ≤ b := by
  obtain ⟨cs, h1, h2, h3, h4, h5⟩ := h
  have : Bld (slO intO) w base e2 v rows F := ⟨cs, h1, h2.growDone, h3, h4, h5⟩
  exact this.done
end Go.Proofs.YtidchfncfcckiaaGreat

namespace Go.Proofs.YtidchfncfcckiaaGreat
open Go.RowKit

/-- an order of n items: each once -/
structure OrdB (n : Nat) (o : List Int) : Prop where
  len : o.length = n
  bd : ∀ i, i < n → 0 ≤ o.getD i 0 ∧ o.getD i 0 < n
  inj : ∀ i j, i < n → j < n → o.getD i 0 = o.getD j 0 → i = j
def pivIn (m : List (List Int)) (p : Nat) (c : Int) (l : List Int) : Nat → List Int
  | 0 => l.set p c
  | k + 1 => if 0 < ent m p k ∧ (pivIn m p c l k).getD k 0 < 0 then (pivIn m p c l k).set k c else pivIn m p c l k
def pivSt (m : List (List Int)) (p : Nat) (c : Int) (l : List Int) : List Int := if 0 ≤ l.getD p 0 then l else pivIn m p c l m.length
def pivN (m : List (List Int)) (o : List Int) : Nat → List Int
  | 0 => List.replicate m.length (-1)
  | j + 1 => pivSt m (o.getD j 0).toNat (o.getD j 0) (pivN m o j)
def pivotP (m : List (List Int)) (o : List Int) : List Int := canonL (pivN m o m.length)
theorem pivIn_len (m : List (List Int)) (p : Nat) (c : Int) (l : List Int) : ∀ k, (pivIn m p c l k).length = l.length
  | 0 => List.length_set
  | k + 1 => by
    rw [pivIn]
    split
    · rw [List.length_set]; exact pivIn_len m p c l k
    · exact pivIn_len m p c l k
theorem pivIn_at {m : List (List Int)} {p : Nat} {c : Int} {l : List Int} (hp : p < l.length) (hc : 0 ≤ c) : ∀ k, k ≤ l.length → ∀ j, j < l.length → (pivIn m p c l k).getD j 0 = if j = p ∨ (j < k ∧ 0 < ent m p j ∧ l.getD j 0 < 0) then c else l.getD j 0
  | 0, _, j, hj => by
    rw [pivIn, getD_set _ _ _ _ hp]
    by_cases e : j = p
    · rw [if_pos e, if_pos (.inl e)]
    · rw [if_neg e, if_neg (by rintro (h | h); exact e h; omega)]
  | k + 1, hk, j, hj => by
    have ih := pivIn_at (m := m) hp hc k (by omega)
    have ihk := ih k (by omega)
    have ihj := ih j hj
    have hl := pivIn_len m p c l k
    rw [pivIn]
    by_cases h1 : 0 < ent m p k ∧ (pivIn m p c l k).getD k 0 < 0
    · rw [if_pos h1, getD_set _ _ _ _ (by omega)]
      have hkp : ¬ k = p := fun e => by rw [if_pos (.inl e)] at ihk; omega
      rw [if_neg (by rintro (h | h); exact hkp h; omega)] at ihk
      by_cases e : j = k
      · subst e
        rw [if_pos rfl, if_pos (.inr ⟨by omega, h1.1, by omega⟩)]
      · rw [if_neg e, ihj]
        by_cases h2 : j = p ∨ (j < k ∧ 0 < ent m p j ∧ l.getD j 0 < 0)
        · rw [if_pos h2, if_pos (h2.imp id fun h => ⟨by omega, h.2⟩)]
        · rw [if_neg h2, if_neg fun h => h2 (h.imp id fun h => ⟨by omega, h.2⟩)]
    · rw [if_neg h1, ihj]
      by_cases h2 : j = p ∨ (j < k ∧ 0 < ent m p j ∧ l.getD j 0 < 0)
      · rw [if_pos h2, if_pos (h2.imp id fun h => ⟨by omega, h.2⟩)]
      · rw [if_neg h2]
        by_cases e : j = k
        · subst e
          rw [if_neg h2] at ihk
          rw [if_neg fun h => by
            rcases h with h | h
            · exact h2 (.inl h)
            · exact h1 ⟨h.2.1, by omega⟩]
        · rw [if_neg fun h => h2 (h.imp id fun h => ⟨by omega, h.2⟩)]
theorem pivSt_len (m : List (List Int)) (p : Nat) (c : Int) (l : List Int) : (pivSt m p c l).length = l.length := by
  unfold pivSt
  split
  · rfl
  · exact pivIn_len m p c l _
theorem pivN_len (m : List (List Int)) (o : List Int) : ∀ j, (pivN m o j).length = m.length
  | 0 => List.length_replicate
  | j + 1 => by rw [pivN, pivSt_len, pivN_len m o j]
theorem pivSt_at {m : List (List Int)} {p : Nat} {c : Int} {l : List Int} (hl : l.length = m.length) (hp : p < l.length) (hc : 0 ≤ c) {j : Nat} (hj : j < l.length) (h0 : l.getD p 0 < 0) :
    (pivSt m p c l).getD j 0 = if j = p ∨ (0 < ent m p j ∧ l.getD j 0 < 0) then c else l.getD j 0 := by
  unfold pivSt
  rw [if_neg (by omega), pivIn_at hp hc m.length (by omega) j hj]
  by_cases h2 : j = p ∨ (0 < ent m p j ∧ l.getD j 0 < 0)
  · rw [if_pos h2, if_pos (h2.imp id fun h => ⟨by omega, h⟩)]
  · rw [if_neg h2, if_neg fun h => h2 (h.imp id fun h => h.2)]
theorem pivN_bd {m : List (List Int)} {o : List Int} (ho : OrdB m.length o) : ∀ j, j ≤ m.length → ∀ x ∈ pivN m o j, -1 ≤ x ∧ x < m.length
  | 0, _, x, hx => by
    have := List.eq_of_mem_replicate hx
    omega
  | j + 1, hj, x, hx => by
    have ih := pivN_bd ho j (by omega)
    have hb := ho.bd j (by omega)
    rw [pivN] at hx
    obtain ⟨i, hi, rfl⟩ := mem_getD hx
    rw [pivSt_len, pivN_len] at hi
    by_cases h0 : 0 ≤ (pivN m o j).getD (o.getD j 0).toNat 0
    · have e : pivSt m (o.getD j 0).toNat (o.getD j 0) (pivN m o j) = pivN m o j := by unfold pivSt; rw [if_pos h0]
      rw [e]
      exact ih _ (getD_mem (by rw [pivN_len]; exact hi))
    · rw [pivSt_at (pivN_len m o j) (by rw [pivN_len]; omega) hb.1 (by rw [pivN_len]; exact hi) (by omega)]
      split
      · omega
      · exact ih _ (getD_mem (by rw [pivN_len]; exact hi))

/-! ### The reference: the label is the place in the order -/
def pivJn (m : List (List Int)) (p : Nat) (c : Int) (l : List Int) : Nat → List Int
  | 0 => l
  | k + 1 => if (pivJn m p c l k).getD k 0 < 0 ∧ (k = p ∨ 0 < ent m p k) then (pivJn m p c l k).set k c else pivJn m p c l k
def pivJs (m : List (List Int)) (p : Nat) (c : Int) (l : List Int) : List Int := if 0 ≤ l.getD p 0 then l else pivJn m p c l m.length
def pivM (m : List (List Int)) (o : List Int) : Nat → List Int
  | 0 => List.replicate m.length (-1)
  | j + 1 => pivJs m (o.getD j 0).toNat (j : Nat) (pivM m o j)
theorem pivJn_len (m : List (List Int)) (p : Nat) (c : Int) (l : List Int) : ∀ k, (pivJn m p c l k).length = l.length
  | 0 => rfl
  | k + 1 => by
    rw [pivJn]
    split
    · rw [List.length_set]; exact pivJn_len m p c l k
    · exact pivJn_len m p c l k
theorem pivJn_at {m : List (List Int)} {p : Nat} {c : Int} {l : List Int} : ∀ k, k ≤ l.length → ∀ j, j < l.length → (pivJn m p c l k).getD j 0 = if j < k ∧ l.getD j 0 < 0 ∧ (j = p ∨ 0 < ent m p j) then c else l.getD j 0
  | 0, _, j, hj => by rw [pivJn, if_neg (by omega)]
  | k + 1, hk, j, hj => by
    have ih := pivJn_at (m := m) (p := p) (c := c) (l := l) k (by omega)
    have ihk := ih k (by omega)
    have ihj := ih j hj
    have hl := pivJn_len m p c l k
    rw [if_neg (by omega)] at ihk
    rw [pivJn, ihk]
    by_cases h1 : l.getD k 0 < 0 ∧ (k = p ∨ 0 < ent m p k)
    · rw [if_pos h1, getD_set _ _ _ _ (by omega)]
      by_cases e : j = k
      · subst e
        rw [if_pos rfl, if_pos ⟨by omega, h1⟩]
      · rw [if_neg e, ihj]
        by_cases h2 : j < k ∧ l.getD j 0 < 0 ∧ (j = p ∨ 0 < ent m p j)
        · rw [if_pos h2, if_pos ⟨by omega, h2.2⟩]
        · rw [if_neg h2, if_neg fun h => h2 ⟨by omega, h.2⟩]
    · rw [if_neg h1, ihj]
      by_cases e : j = k
      · subst e
        rw [if_neg (by omega), if_neg fun h => h1 h.2]
      · by_cases h2 : j < k ∧ l.getD j 0 < 0 ∧ (j = p ∨ 0 < ent m p j)
        · rw [if_pos h2, if_pos ⟨by omega, h2.2⟩]
        · rw [if_neg h2, if_neg fun h => h2 ⟨by omega, h.2⟩]
theorem pivJs_len (m : List (List Int)) (p : Nat) (c : Int) (l : List Int) : (pivJs m p c l).length = l.length := by
  unfold pivJs
  split
  · rfl
  · exact pivJn_len m p c l _
theorem pivM_len (m : List (List Int)) (o : List Int) : ∀ j, (pivM m o j).length = m.length
  | 0 => List.length_replicate
  | j + 1 => by rw [pivM, pivJs_len, pivM_len m o j]
theorem piv_both {m : List (List Int)} {o : List Int} (ho : OrdB m.length o) : ∀ j, j ≤ m.length → ∀ i, i < m.length → ((pivN m o j).getD i 0 < 0 ∧ (pivM m o j).getD i 0 < 0 ∧ (pivM m o j).getD i 0 = -1) ∨ ∃ q, q < j ∧ (pivM m o j).getD i 0 = (q : Nat) ∧ (pivN m o j).getD i 0 = o.getD q 0
  | 0, _, i, hi => by
    left
    have e : (List.replicate m.length (-1 : Int)).getD i 0 = -1 := by rw [getD_getElem (by rw [List.length_replicate]; exact hi), List.getElem_replicate]
    rw [pivN, pivM, e]
    omega
  | j + 1, hj, i, hi => by
    have ih := piv_both ho j (by omega)
    have hb := ho.bd j (by omega)
    have hlN := pivN_len m o j
    have hlM := pivM_len m o j
    obtain ⟨p, hp⟩ : ∃ p : Nat, o.getD j 0 = p := ⟨(o.getD j 0).toNat, by omega⟩
    have hpn : p < m.length := by omega
    have ihp := ih p hpn
    have ihi := ih i hi
    rw [pivN, pivM, hp, Int.toNat_natCast]
    rcases ihp with ⟨p1, p2, p3⟩ | ⟨q, q1, q2, q3⟩
    · rw [pivSt_at hlN (by omega) (by omega) (by omega) p1]
      unfold pivJs
      rw [if_neg (show ¬ 0 ≤ (pivM m o j).getD p 0 by omega), pivJn_at m.length (by omega) i (by omega)]
      by_cases e : i = p
      · subst e
        rw [if_pos (.inl rfl), if_pos ⟨hi, p2, .inl rfl⟩]
        exact .inr ⟨j, by omega, rfl, hp.symm⟩
      · rcases ihi with ⟨r1, r2, r3⟩ | ⟨q, q1, q2, q3⟩
        · by_cases h0 : 0 < ent m p i
          · rw [if_pos (.inr ⟨h0, r1⟩), if_pos ⟨hi, r2, .inr h0⟩]
            exact .inr ⟨j, by omega, rfl, hp.symm⟩
          · rw [if_neg (by rintro (h | h); exact e h; exact h0 h.1), if_neg (by rintro ⟨_, _, h | h⟩; exact e h; exact h0 h)]
            exact .inl ⟨r1, r2, r3⟩
        · have := ho.bd q (by omega)
          rw [if_neg (by rintro (h | h); exact e h; omega), if_neg (by omega)]
          exact .inr ⟨q, by omega, q2, q3⟩
    · have hqb := ho.bd q (by omega)
      unfold pivSt pivJs
      rw [if_pos (show 0 ≤ (pivN m o j).getD p 0 by omega), if_pos (show 0 ≤ (pivM m o j).getD p 0 by omega)]
      rcases ihi with h | ⟨q, q1, q2, q3⟩
      · exact .inl h
      · exact .inr ⟨q, by omega, q2, q3⟩
theorem piv_same {m : List (List Int)} {o : List Int} (ho : OrdB m.length o) : canonL (pivM m o m.length) = pivotP m o := by
  unfold pivotP
  refine canonL_eq ⟨(pivM_len m o _).trans (pivN_len m o _).symm, fun i j hi hj => ?_⟩
  rw [pivM_len] at hi hj
  have hN : ∀ i, i < m.length → (pivN m o m.length).getD i 0 < 0 → (pivN m o m.length).getD i 0 = -1 := fun i hi h => by
    have := pivN_bd ho m.length (Nat.le_refl _) _ (getD_mem (i := i) (by rw [pivN_len]; exact hi))
    omega
  rcases piv_both ho m.length (Nat.le_refl _) i hi with ⟨a1, a2, a3⟩ | ⟨q, q1, q2, q3⟩ <;> rcases piv_both ho m.length (Nat.le_refl _) j hj with ⟨b1, b2, b3⟩ | ⟨r, r1, r2, r3⟩
  · rw [hN i hi a1, hN j hj b1, a3, b3]
  · have := ho.bd r r1
    omega
  · have := ho.bd q q1
    omega
  · rw [q2, q3, r2, r3]
    refine ⟨fun h => ?_, fun h => ?_⟩
    · have : q = r := by omega
      rw [this]
    · rw [ho.inj q r q1 r1 h]

/-! ### The best of the orders that begin with each item -/
def rotL (n s : Nat) : List Int := (List.range n).map fun i => (((s + i) % n : Nat) : Int)
theorem rotL_at {n s i : Nat} (hi : i < n) : (rotL n s).getD i 0 = (((s + i) % n : Nat) : Int) := by
  unfold rotL
  rw [getD_getElem (by simp; exact hi)]
  simp
theorem rotL_ord {n s : Nat} (hs : s < n) : OrdB n (rotL n s) := by
  have key : ∀ i, i < n → (s + i) % n = if s + i < n then s + i else s + i - n := fun i hi => by
    split
    · exact Nat.mod_eq_of_lt (by assumption)
    · rw [Nat.mod_eq_sub_mod (by omega), Nat.mod_eq_of_lt (by omega)]
  refine ⟨by unfold rotL; simp, fun i hi => ?_, fun i j hi hj h => ?_⟩
  · rw [rotL_at hi]
    have := Nat.mod_lt (s + i) (show 0 < n by omega)
    omega
  · rw [rotL_at hi, rotL_at hj, key i hi, key j hj] at h
    split at h <;> split at h <;> omega
theorem rotL_snoc (n s k : Nat) : ((List.range (k + 1)).map fun i => (((s + i) % n : Nat) : Int)) = ((List.range k).map fun i => (((s + i) % n : Nat) : Int)) ++ [(((s + k) % n : Nat) : Int)] := by
  rw [List.range_succ, List.map_append]; rfl
def bpSt (m : List (List Int)) (t : List Int × Int) (s : Nat) : List Int × Int :=
  if t.2 < 0 ∨ costP m (pivotP m (rotL m.length s)) < t.2 then (pivotP m (rotL m.length s), costP m (pivotP m (rotL m.length s))) else t
def bpN (m : List (List Int)) : Nat → List Int × Int
  | 0 => ([], -1)
  | s + 1 => bpSt m (bpN m s) s
theorem pivotP_facts (m : List (List Int)) (o : List Int) : RG (pivotP m o) ∧ (pivotP m o).length = m.length := ⟨canonL_RG _, by unfold pivotP; rw [canonL_len, pivN_len]⟩
theorem bpN_facts (m : List (List Int)) : ∀ s, 0 < s → RG (bpN m s).1 ∧ (bpN m s).1.length = m.length ∧ (bpN m s).2 = costP m (bpN m s).1
  | 0, h => absurd h (Nat.lt_irrefl _)
  | s + 1, _ => by
    rw [bpN]
    unfold bpSt
    split
    · exact ⟨(pivotP_facts m _).1, (pivotP_facts m _).2, rfl⟩
    · rename_i hn
      by_cases h0 : s = 0
      · subst h0
        exact absurd (.inl (show (-1 : Int) < 0 by omega)) hn
      · exact bpN_facts m s (by omega)
end Go.Proofs.YtidchfncfcckiaaGreat

namespace Go.Proofs.YtidchfncfcckiaaGreat
open Go.RowKit

theorem cost_same (m : List (List Int)) {a b : List Int} (h : SameK a b) : costP m a = costP m b := by
  unfold costP costN
  rw [← h.1]
  refine sumN_congr _ fun i hi => sumN_congr _ fun k hk => ?_
  unfold costPair
  have := h.2 i k hi (by omega)
  by_cases e : a.getD i 0 = a.getD k 0
  · rw [if_pos e, if_pos (this.1 e)]
  · rw [if_neg e, if_neg fun e2 => e (this.2 e2)]
theorem keeps_same (l : List Constraint) {a b : List Int} (h : SameK a b) : keepsB a l = keepsB b l := by
  unfold keepsB
  rw [Bool.eq_iff_iff, List.all_eq_true, List.all_eq_true]
  have one : ∀ {a b : List Int}, SameK a b → ∀ c : Constraint, keepC a c = true → keepC b c = true := fun {a b} h c hc => by
    unfold keepC at hc ⊢
    simp only [Bool.and_eq_true, decide_eq_true_eq] at hc ⊢
    refine ⟨⟨⟨hc.1.1.1, by rw [← h.1]; exact hc.1.1.2⟩, hc.1.2.1, by rw [← h.1]; exact hc.1.2.2⟩, ?_⟩
    have h2 := hc.2
    rw [beq_iff_eq] at h2 ⊢
    rw [← h2, Bool.eq_iff_iff, beq_iff_eq, beq_iff_eq]
    exact (h.2 c.a.toNat c.b.toNat (by omega) (by omega)).symm
  exact ⟨fun h1 c hc => one h c (h1 c hc), fun h1 c hc => one h.symm c (h1 c hc)⟩
theorem bestF_le {m : List (List Int)} {l : List Constraint} {p : List Int} (hp : p.length = m.length) (hk : keepsB p l = true) : 0 ≤ (bestF m l).2.1 ∧ (bestF m l).2.1 ≤ costP m p := by
  have hs := canonL_same p
  have hm := leaves_mem m.length [] (canonL p) (by rw [canonL_len, hp]) (by rw [List.nil_append]; exact canonL_RG p)
  obtain ⟨r, e, _, _, h3, _⟩ := best_fold m l (leaves m.length [] 0) ([], -1, 0) (.inl rfl)
  have := h3 (canonL p) (by rw [List.nil_append] at hm; exact hm) (by rw [keeps_same l hs]; exact hk)
  unfold bestF
  rw [e, ← cost_same m hs]
  exact this
theorem bestF_is {m : List (List Int)} {l : List Constraint} (h : 0 ≤ (bestF m l).2.1) : keepsB (bestF m l).1 l = true ∧ (bestF m l).2.1 = costP m (bestF m l).1 ∧ RG (bestF m l).1 ∧ (bestF m l).1.length = m.length := by
  obtain ⟨r, e, h1, _, _, h4⟩ := best_fold m l (leaves m.length [] 0) ([], -1, 0) (.inl rfl)
  have hb : bestF m l = r := e
  rw [hb] at h ⊢
  rcases h1 with h1 | ⟨_, h1, h2⟩
  · omega
  · rcases h4 with h4 | ⟨_, h4⟩
    · obtain ⟨t, e1, e2⟩ := leaves_pre _ _ _ _ h4
      exact ⟨h1, h2, leaves_rg _ [] 0 RG.nil rfl _ h4, by rw [e1, List.nil_append, e2]⟩
    · rw [h4] at h
      exact absurd h (by decide)
end Go.Proofs.YtidchfncfcckiaaGreat

namespace Go.Proofs.YtidchfncfcckiaaGreat
open Go.RowKit

def movedP (l : List Int) (i k : Nat) : List Int := canonL (l.set i (k : Int))
def mvSt (m : List (List Int)) (cs : List Constraint) (l : List Int) (i : Nat) (t : Nat × Nat × Int) (k : Nat) : Nat × Nat × Int :=
  if t.2.2 < costP m l - costP m (movedP l i k) ∧ keepsB (movedP l i k) cs = true then (i, k, costP m l - costP m (movedP l i k)) else t
def mvIn (m : List (List Int)) (cs : List Constraint) (l : List Int) (i : Nat) (t : Nat × Nat × Int) : Nat → Nat × Nat × Int
  | 0 => t
  | k + 1 => mvSt m cs l i (mvIn m cs l i t k) k
def mvOut (m : List (List Int)) (cs : List Constraint) (l : List Int) : Nat → Nat × Nat × Int
  | 0 => (0, 0, 0)
  | i + 1 => mvIn m cs l i (mvOut m cs l i) ((nextOf l).toNat + 1)
def mvP (m : List (List Int)) (cs : List Constraint) (l : List Int) : Nat × Nat × Int := if keepsB l cs = true then mvOut m cs l l.length else (0, 0, 0)
theorem movedP_facts (l : List Int) (i k : Nat) : RG (movedP l i k) ∧ (movedP l i k).length = l.length := ⟨canonL_RG _, by unfold movedP; rw [canonL_len, List.length_set]⟩
theorem movedP_part {l : List Int} (h : partB l = true) (i k : Nat) : partB (movedP l i k) = true := by
  obtain ⟨_, h1, h8⟩ := partB_iff.1 h
  obtain ⟨f1, f2⟩ := movedP_facts l i k
  exact partB_iff.2 ⟨f1, by omega, by omega⟩
/-- what a state says -/
def MvOk (m : List (List Int)) (cs : List Constraint) (l : List Int) (t : Nat × Nat × Int) : Prop :=
  0 ≤ t.2.2 ∧ t.2.2 ≤ costP m l ∧ (t = (0, 0, 0) ∨ (0 < t.2.2 ∧ t.1 < l.length ∧ t.2.1 ≤ (nextOf l).toNat ∧ keepsB (movedP l t.1 t.2.1) cs = true))
theorem mvSt_ok {m : List (List Int)} {cs : List Constraint} {l : List Int} {i k : Nat} {t : Nat × Nat × Int} (hi : i < l.length) (hk : k ≤ (nextOf l).toNat) (h : MvOk m cs l t) : MvOk m cs l (mvSt m cs l i t k) := by
  unfold mvSt
  split
  · rename_i hc
    have := costP_nn m (movedP l i k)
    have h0 := h.1
    exact ⟨by dsimp only; omega, by dsimp only; omega, .inr ⟨by dsimp only; omega, hi, hk, hc.2⟩⟩
  · exact h
theorem mvIn_ok {m : List (List Int)} {cs : List Constraint} {l : List Int} {i : Nat} {t : Nat × Nat × Int} (hi : i < l.length) (h : MvOk m cs l t) : ∀ k, k ≤ (nextOf l).toNat + 1 → MvOk m cs l (mvIn m cs l i t k)
  | 0, _ => h
  | k + 1, hk => mvSt_ok hi (by omega) (mvIn_ok hi h k (by omega))
theorem mvOut_ok {m : List (List Int)} {cs : List Constraint} {l : List Int} : ∀ i, i ≤ l.length → MvOk m cs l (mvOut m cs l i)
  | 0, _ => ⟨Int.le_refl _, costP_nn m l, .inl rfl⟩
  | i + 1, hi => mvIn_ok (by omega) (mvOut_ok i (by omega)) _ (Nat.le_refl _)
theorem mvP_ok (m : List (List Int)) (cs : List Constraint) (l : List Int) : MvOk m cs l (mvP m cs l) := by
  unfold mvP
  split
  · exact mvOut_ok _ (Nat.le_refl _)
  · exact ⟨Int.le_refl _, costP_nn m l, .inl rfl⟩
def impN (m : List (List Int)) (cs : List Constraint) : Nat → List Int → List Int
  | 0, l => l
  | t + 1, l => if 0 < (mvP m cs l).2.2 then impN m cs t (movedP l (mvP m cs l).1 (mvP m cs l).2.1) else l
def impP (m : List (List Int)) (cs : List Constraint) (l : List Int) : List Int := impN m cs 100 l
theorem impN_facts (m : List (List Int)) (cs : List Constraint) : ∀ (t : Nat) (l : List Int), partB l = true → partB (impN m cs t l) = true ∧ (impN m cs t l).length = l.length ∧ (keepsB l cs = true → keepsB (impN m cs t l) cs = true)
  | 0, l, h => ⟨h, rfl, fun h => h⟩
  | t + 1, l, h => by
    rw [impN]
    split
    · rename_i hg
      obtain ⟨h1, h2, h3⟩ := impN_facts m cs t _ (movedP_part h (mvP m cs l).1 (mvP m cs l).2.1)
      refine ⟨h1, h2.trans (movedP_facts l _ _).2, fun _ => h3 ?_⟩
      rcases (mvP_ok m cs l).2.2 with e | ⟨_, _, _, e⟩
      · rw [e] at hg
        exact absurd hg (Int.lt_irrefl _)
      · exact e
    · exact ⟨h, rfl, fun h => h⟩
end Go.Proofs.YtidchfncfcckiaaGreat
