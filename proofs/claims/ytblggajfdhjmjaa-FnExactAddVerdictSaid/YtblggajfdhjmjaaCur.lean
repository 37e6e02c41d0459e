/-
  PLAIN LAWS AND WALKS: CurrentVerdicts (both).
-/
import Derived.Test.YtblggajfdhjmjaaVers
import Derived.Test.YtblggajfdhjmjaaApp
import Derived.Laws.OwnMore
namespace Go.Proofs.Ytblggajfdhjmjaa
open Go.RowKit

theorem elemVer : ElemT Try.prog 26 30 verdictO.n 32 := by
  obtain ⟨i, h1, h2, h3, h4⟩ := info_parts infoVer
  exact ⟨Try.underlying26, i, _, h1, h2, h3, h4, rfl⟩
theorem one_ver (a b : Int) (c : Bool) (d : Int) : ∀ u ∈ (#[Value.int .i64 a, .int .i64 b, .bool c, .int .i64 d] : Array Value).toList, u.oneCell' = true := by simp [Value.oneCell']

/-- the last element of a list that grows: its cells; a store of a whole verdict there -/
theorem Bld.ver_last {w : World} {base : Nat} {e : TypeId} {A : Option Addr} {n cap : Nat} {xs : List Verdict} {l : Verdict} (h : Bld verdictO w base e (.slice A n cap) (xs ++ [l]) []) :
    n = xs.length + 1 ∧ ∃ g, A = some ⟨g, 0, none⟩ ∧ base ≤ g ∧ g < w.heap.size ∧ (w.cell? ⟨g, xs.length * 4, none⟩ = some (.int .i64 l.a) ∧ w.cell? ⟨g, xs.length * 4 + 1, none⟩ = some (.int .i64 l.b) ∧ w.cell? ⟨g, xs.length * 4 + 2, none⟩ = some (.bool l.same) ∧ w.cell? ⟨g, xs.length * 4 + 3, none⟩ = some (.int .i64 l.time)) ∧
      (∀ i, w.frozen? ⟨g, i, none⟩ = false) ∧ ∀ y : Verdict, y.ok → Bld verdictO ((((w.setCell ⟨g, xs.length * 4, none⟩ (.int .i64 y.a)).setCell ⟨g, xs.length * 4 + 1, none⟩ (.int .i64 y.b)).setCell ⟨g, xs.length * 4 + 2, none⟩ (.bool y.same)).setCell ⟨g, xs.length * 4 + 3, none⟩ (.int .i64 y.time)) base e (.slice A n cap) (xs ++ [y]) [] := by
  have hlt := h.lt
  obtain ⟨cs, h1, h2, _, _, _⟩ := h
  have hlen : (xs ++ [l]).length = xs.length + 1 := by simp
  rcases h1.2 with ⟨e0, hn⟩ | ⟨g, cap', cur, e0, hb, hh, hr⟩
  · rw [hlen] at hn; omega
  · injection e0 with e1 e2 e3
    subst e1; subst e3
    rw [hlen] at e2
    subst e2
    refine ⟨rfl, g, rfl, hb, block_lt hh, ?_⟩
    rw [hlen] at h1
    obtain ⟨c0, c, c1, F0, F1, F2, rfl, hF, l0, _, k0, k1, k2⟩ := h2.split xs.length (by rw [hlen]; omega)
    have hF0 : F0 = [] := (List.append_eq_nil_iff.1 hF.symm).1
    have hF2 : F2 = [] := (List.append_eq_nil_iff.1 (List.append_eq_nil_iff.1 hF.symm).2).2
    subst hF0; subst hF2
    rw [List.getElem_append_right (by omega)] at k1
    simp only [Nat.sub_self, List.getElem_singleton] at k1
    obtain ⟨⟨rfl, hok⟩, rfl⟩ := k1
    rw [show (xs ++ [l]).drop (xs.length + 1) = [] by simp] at k2
    obtain ⟨rfl, _⟩ := k2
    rw [List.append_nil] at h1
    rw [show (xs ++ [l]).take xs.length = xs by simp] at k0
    have hn : verdictO.n = 4 := rfl
    rw [hn] at l0 h1
    have hat := fun j (hj : j < 4) => h1.cellAt (xs.length * 4 + j) (by omega)
    have hget : ∀ j, (c0 ++ l.cells)[xs.length * 4 + j]? = l.cells[j]? := fun j => by rw [List.getElem?_append_right (by omega), l0]; congr 1; omega
    refine ⟨⟨by simpa [hget, Verdict.cells] using (hat 0 (by omega)).trans (hget 0), by simpa [Verdict.cells] using (hat 1 (by omega)).trans (hget 1), by simpa [Verdict.cells] using (hat 2 (by omega)).trans (hget 2), by simpa [Verdict.cells] using (hat 3 (by omega)).trans (hget 3)⟩, h1.frozenAt, fun y hy => ?_⟩
    have s0 := h1.stored (xs.length * 4) (.int .i64 y.a)
    have s1 := s0.1.stored (xs.length * 4 + 1) (.int .i64 y.b)
    have s2 := s1.1.stored (xs.length * 4 + 2) (.bool y.same)
    have s3 := s2.1.stored (xs.length * 4 + 3) (.int .i64 y.time)
    have hset : ((((c0 ++ l.cells).set (xs.length * 4) (.int .i64 y.a)).set (xs.length * 4 + 1) (.int .i64 y.b)).set (xs.length * 4 + 2) (.bool y.same)).set (xs.length * 4 + 3) (.int .i64 y.time) = c0 ++ y.cells := by
      rw [← l0]
      simp [Verdict.cells, List.set_append]
    rw [hset] at s3
    refine ⟨c0 ++ y.cells, by rw [List.length_append]; exact s3.1, ?_, fun _ _ hm => (by cases hm), List.nodup_nil, fun _ hm => by cases hm⟩
    have := OwnCells.snoc (k0.keep (w2 := ((((w.setCell ⟨g, xs.length * 4, none⟩ (.int .i64 y.a)).setCell ⟨g, xs.length * 4 + 1, none⟩ (.int .i64 y.b)).setCell ⟨g, xs.length * 4 + 2, none⟩ (.bool y.same)).setCell ⟨g, xs.length * 4 + 3, none⟩ (.int .i64 y.time))) fun b hb => by cases hb) (k := (⟨⟨rfl, hy⟩, rfl⟩ : verdictO.own _ y.cells y []))
    simpa using this

def curStep (out : List Verdict) (v : Verdict) : List Verdict :=
  match out.getLast? with
  | none => out ++ [v]
  | some l => if l.a = v.a ∧ l.b = v.b then (if l.time < v.time then out.dropLast ++ [v] else out) else out ++ [v]
def curV (xs : List Verdict) : List Verdict := if areVers xs then xs.foldl curStep [] else []
theorem curStep_nil (v : Verdict) : curStep [] v = [v] := rfl
theorem curStep_new {xs : List Verdict} {l v : Verdict} (h : ¬ (l.a = v.a ∧ l.b = v.b)) : curStep (xs ++ [l]) v = (xs ++ [l]) ++ [v] := by unfold curStep; simp [h]
theorem curStep_set {xs : List Verdict} {l v : Verdict} (h : l.a = v.a) (h1 : l.b = v.b) (h2 : l.time < v.time) : curStep (xs ++ [l]) v = xs ++ [v] := by unfold curStep; simp [h, h1, h2]
theorem curStep_old {xs : List Verdict} {l v : Verdict} (h : l.a = v.a) (h1 : l.b = v.b) (h2 : ¬ l.time < v.time) : curStep (xs ++ [l]) v = xs ++ [l] := by unfold curStep; simp [h, h1, h2]
theorem cur_step (xs : List Verdict) (k : Nat) (h : k < xs.length) : (xs.take (k + 1)).foldl curStep [] = curStep ((xs.take k).foldl curStep []) xs[k] := by
  rw [List.take_succ_eq_append_getElem h, List.foldl_append]; rfl
theorem curStep_len (out : List Verdict) (v : Verdict) : (curStep out v).length ≤ out.length + 1 := by
  rcases List.eq_nil_or_concat out with rfl | ⟨xs, l, rfl⟩
  · simp [curStep_nil]
  · rw [List.concat_eq_append]
    by_cases h : l.a = v.a ∧ l.b = v.b
    · by_cases h2 : l.time < v.time
      · rw [curStep_set h.1 h.2 h2]; simp
      · rw [curStep_old h.1 h.2 h2]; simp
    · rw [curStep_new h]; simp
theorem cur_len (xs : List Verdict) (k : Nat) (h : k ≤ xs.length) : ((xs.take k).foldl curStep []).length ≤ k := by
  induction k with
  | zero => simp
  | succ k ih =>
    rw [cur_step xs k (by omega)]
    have := curStep_len ((xs.take k).foldl curStep []) xs[k]
    have := ih (by omega)
    omega
theorem vers_len {xs : List Verdict} (h : areVers xs = true) : xs.length ≤ 8 := by
  unfold areVers at h; rw [Bool.and_eq_true] at h; exact of_decide_eq_true h.2
end Go.Proofs.Ytblggajfdhjmjaa
