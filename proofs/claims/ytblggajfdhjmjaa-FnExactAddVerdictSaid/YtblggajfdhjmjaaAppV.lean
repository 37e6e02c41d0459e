/-
  PLAIN LAW: 'append(s, t...)' of verdicts. WALKS: l28Copy, slices.Clone at verdicts.
-/
import Derived.Test.YtblggajfdhjmjaaCur
import Derived.Laws.OwnMore
namespace Go.Proofs.Ytblggajfdhjmjaa
open Go.RowKit

theorem vflat_get : ∀ (ys : List Verdict) (j : Nat), (ys.flatMap Verdict.cells)[j]? = (ys[j / 4]?).bind fun y => y.cells[j % 4]?
  | [], j => by simp
  | y :: ys, j => by
    have hl : y.cells.length = 4 := rfl
    rw [List.flatMap_cons]
    by_cases h : j < 4
    · rw [List.getElem?_append_left (by omega), show j / 4 = 0 by omega, show j % 4 = j by omega]; rfl
    · rw [List.getElem?_append_right (by omega), hl, vflat_get ys (j - 4), show j / 4 = (j - 4) / 4 + 1 by omega, show j % 4 = (j - 4) % 4 by omega]; rfl
theorem vflat_len (ys : List Verdict) : (ys.flatMap Verdict.cells).length = ys.length * 4 := by
  induction ys with
  | nil => rfl
  | cons y ys ih => rw [List.flatMap_cons, List.length_append, ih, show y.cells.length = 4 from rfl, List.length_cons]; omega
theorem vers_own (ys : List Verdict) (h : ∀ y ∈ ys, y.ok) (W : World) : OwnCells verdictO W (ys.flatMap Verdict.cells) ys [] := by
  induction ys with
  | nil => exact .nil
  | cons y ys ih => exact ⟨y.cells, _, [], [], rfl, rfl, ⟨⟨rfl, h y (List.mem_cons_self ..)⟩, rfl⟩, ih fun z hz => h z (List.mem_cons_of_mem _ hz)⟩
theorem Sl.vers_some {w : World} {ad : Addr} {n cap : Nat} {ys : List Verdict} (h : Sl verdictR w (.slice (some ad) n cap) ys) : (∀ y ∈ ys, y.ok) ∧ ∀ j u, (ys.flatMap Verdict.cells)[j]? = some u → w.cell? (ad.add j) = some u := by
  refine ⟨fun y hy => ?_, fun j u hj => ?_⟩
  · obtain ⟨i, hi, rfl⟩ := List.getElem_of_mem hy
    obtain ⟨_, _, _, _, ⟨_, h1⟩, _⟩ := h.at_ hi
    exact h1
  · rw [vflat_get] at hj
    obtain ⟨y, hy, hc⟩ := Option.bind_eq_some_iff.1 hj
    obtain ⟨hi, rfl⟩ := List.getElem?_eq_some_iff.1 hy
    obtain ⟨b, off, cs, e, ⟨rfl, _⟩, h2⟩ := h.at_ hi
    injection e with e
    subst e
    have h3 := h2 (j % 4) (Nat.mod_lt _ (by decide))
    rw [add_eq, ← hc, ← h3]
    have h4 : verdictR.n = 4 := rfl
    rw [h4, show off + j / 4 * 4 + j % 4 = off + j by omega]
theorem vers_one (ys : List Verdict) : ∀ u ∈ ys.flatMap Verdict.cells, u.oneCell' = true := by
  intro u hu
  obtain ⟨y, _, hy⟩ := List.mem_flatMap.1 hu
  simp only [Verdict.cells, List.mem_cons, List.not_mem_nil, or_false] at hy
  rcases hy with rfl | rfl | rfl | rfl <;> rfl
/-- 'append(s, t...)': the verdicts of t, which may be the caller's -/
theorem wpList_appv {P : Program} {ops : Array Oper} {rest : List Oper} {o : Oper} {a : Act} {w : World} {Q : Exit → Act → World → Prop} {t e : TypeId} {bytes : Nat} (E : ElemT P t e verdictO.n bytes) (hby : bytes ≤ 128)
    (hgd : o.guard = none) (s x : Operand) (ho : o.op = .call { callee := .builtin .append, args := #[s, x], argTypes := #[t, t] })
    {base : Nat} {v : Value} {xs : List Verdict} (hb : Bld verdictO w base e v xs []) (hs : a.eval s = v) {A : Option Addr} {n k : Nat} (hx : a.eval x = .slice A n k) {ys : List Verdict} (hy : Sl verdictR w (.slice A n k) ys)
    (hbytes : xs.length + ys.length ≤ 1099511627776) (hbase : base ≤ w.heap.size)
    (h : ∀ v' w', Bld verdictO w' base e v' (xs ++ ys) [] → (∀ w0 : World, w0.heap.size ≤ base → Ext w0 w → Ext w0 w') → wpList P ops Q rest (a.put o.dst v') w') :
    wpList P ops Q (o :: rest) a w := by
  obtain ⟨ht, i, z, hi, hz, hsize, hby2, hzs⟩ := E
  have hn : n = ys.length := hy.cap_.1
  cases A with
  | none =>
    have h0 : ys = [] := by
      cases ys with
      | nil => rfl
      | cons y ys =>
        obtain ⟨_, _, _, e, _⟩ := hy.at_ (show 0 < (y :: ys).length by simp)
        cases e
    subst h0
    have hn0 : n = 0 := hn
    subst hn0
    obtain ⟨cs, b1, b2⟩ := hb
    refine wpList_plain hgd fun K hK => ?_
    have hr : (Builtin.append_ #[t, t] o.type #[v, .slice none 0 k]).run P w = .ok v w := by
      rcases b1.2 with ⟨rfl, _⟩ | ⟨g, cap, cur, rfl, _, _, hnc, _⟩
      · simp [Builtin.append_, run_underlying ht, sizeOf, typeInfo, hi, Builtin.lenOf, Builtin.firstCells]
      · simp [Builtin.append_, run_underlying ht, sizeOf, typeInfo, hi, Builtin.lenOf, Builtin.firstCells, hnc, storeCells]
    unfold Oper.wp execOp
    simp only [ho, resolve, invoke, builtin, Sem.run_bind, Sem.run_pure, Result.andThen_ok, List.map_toArray, List.map_cons, List.map_nil, hs, hx, hr]
    exact hK _ _ (h v w (by rw [List.append_nil]; exact ⟨cs, b1, b2⟩) fun _ _ hx => hx)
  | some ad =>
    obtain ⟨hI, hc⟩ := hy.vers_some
    have hl := hb.lt
    obtain ⟨cs, b1, b2, b3, b4, b5⟩ := hb
    have h4 : verdictO.n = 4 := rfl
    refine wpList_append_own_at w hgd s x t ho base e i z verdictO.n bytes ht hi hz hsize hby2 hzs (by decide) v xs.length cs hs b1 ad n k (ys.flatMap Verdict.cells) hx (by rw [vflat_len, hn, h4]) hc (vers_one ys) (by unfold maxLen; omega)
      (Nat.le_trans (Nat.mul_le_mul (show xs.length + n ≤ 1099511627776 by omega) hby) (by decide)) hbase ?_
    intro v' w' hown hgr _ hat
    refine h v' w' ⟨cs ++ ys.flatMap Verdict.cells, by rw [List.length_append, ← hn]; exact hown, ?_, fun _ _ hm => (by cases hm), List.nodup_nil, fun _ hm => by cases hm⟩ fun w0 h0 hx0 => hx0.grown hgr fun g hg => Nat.le_trans h0 (hl.2 g hg).2
    have := OwnCells.append (b2.keep (w2 := w') fun b hb => by cases hb) (vers_own ys hI w')
    simpa using this

set_option maxHeartbeats 400000 in
set_option maxRecDepth 20000 in
theorem spec_l28Copy (v : Value) (xs : List Verdict) (w : World) (h : Sl verdictR w v xs) (hl : xs.length ≤ 1048576) :
    Calls Try.prog 17 #[v] w fun e w2 => ∃ v2 F, e = .returned v2 ∧ OwnSl verdictO w2 v2 xs F ∧ NewF w F ∧ Ext w w2 := by
  obtain ⟨A, cap, rfl, hm⟩ := h.form
  go_enter Try.func17, Try.ntmps17
  go_wp2_with (at_builtin; refine wpList_appv elemVer (by decide) rfl _ _ rfl (Bld.lit w (Nat.le_refl _) _) rfl rfl (h.mono ((Ext.refl _).alloc _)) (by simp; omega) (by simp) ?_; intro v9 w9 hB9 hE9)
  go_ret
  obtain ⟨F', d1, d2, d3⟩ := hB9.done
  exact ⟨_, F', rfl, by simpa using d1, ⟨d2, d3⟩, hE9 w (Nat.le_refl _) ((Ext.refl _).alloc _)⟩
end Go.Proofs.Ytblggajfdhjmjaa
