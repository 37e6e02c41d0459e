/-
  PLAIN LAWS, OF NO PROGRAM: 'append(s, t...)' of ints.
-/
import Derived.Test.YtfieimmlcopbhaaDoorAppI
import Derived.Laws.OwnMore
namespace Go.Proofs.YtfieimmlcopbhaaDoor
open Go.RowKit

theorem ints_own (xs : List Int) (h : ∀ x ∈ xs, I64 x) (W : World) : OwnCells intO W (xs.map (Value.int .i64)) xs [] := by
  induction xs with
  | nil => exact .nil
  | cons x xs ih => exact ⟨[.int .i64 x], _, [], [], rfl, rfl, ⟨⟨rfl, h x (List.mem_cons_self ..)⟩, rfl⟩, ih fun y hy => h y (List.mem_cons_of_mem _ hy)⟩
theorem Sl.ints_some {w : World} {ad : Addr} {n cap : Nat} {xs : List Int} (h : Sl intR w (.slice (some ad) n cap) xs) : (∀ x ∈ xs, I64 x) ∧ ∀ j u, (xs.map (Value.int .i64))[j]? = some u → w.cell? (ad.add j) = some u := by
  refine ⟨fun x hx => ?_, fun j u hj => ?_⟩
  · obtain ⟨i, hi, rfl⟩ := List.getElem_of_mem hx
    obtain ⟨_, _, _, h1, _⟩ := h.int hi
    exact h1
  · rw [List.getElem?_map] at hj
    obtain ⟨x, hx, rfl⟩ := Option.map_eq_some_iff.1 hj
    obtain ⟨hi, hx⟩ := List.getElem?_eq_some_iff.1 hx
    obtain ⟨b, off, e, h1, hc⟩ := h.int hi
    injection e with e
    subst e
    rw [add_eq, hc, hx]
/-- 'append(s, t...)': the ints of t, which may be the caller's -/
theorem wpList_appn {P : Program} {ops : Array Oper} {rest : List Oper} {o : Oper} {a : Act} {w : World} {Q : Exit → Act → World → Prop} {t e : TypeId} (E : ElemT P t e intO.n 8)
    (hgd : o.guard = none) (s x : Operand) (ho : o.op = .call { callee := .builtin .append, args := #[s, x], argTypes := #[t, t] })
    {base : Nat} {v : Value} {xs : List Int} (hb : Bld intO w base e v xs []) (hs : a.eval s = v) {A : Option Addr} {n k : Nat} (hx : a.eval x = .slice A n k) {ys : List Int} (hy : Sl intR w (.slice A n k) ys)
    (hbytes : xs.length + ys.length ≤ 1099511627776) (hbase : base ≤ w.heap.size)
    (h : ∀ v' w', Bld intO w' base e v' (xs ++ ys) [] → (∀ w0 : World, w0.heap.size ≤ base → Ext w0 w → Ext w0 w') → wpList P ops Q rest (a.put o.dst v') w') :
    wpList P ops Q (o :: rest) a w := by
  obtain ⟨ht, i, z, hi, hz, hsize, hby2, hzs⟩ := E
  have hn : n = ys.length := hy.cap_.1
  cases A with
  | none =>
    have h0 : ys = [] := by
      cases ys with
      | nil => rfl
      | cons y ys =>
        obtain ⟨_, _, _, e, _⟩ := hy.at_ (show 0 < (y :: ys).length by simp)
        cases e
    subst h0
    have hn0 : n = 0 := hn
    subst hn0
    obtain ⟨cs, b1, b2⟩ := hb
    refine wpList_plain hgd fun K hK => ?_
    have hr : (Builtin.append_ #[t, t] o.type #[v, .slice none 0 k]).run P w = .ok v w := by
      rcases b1.2 with ⟨rfl, _⟩ | ⟨g, cap, cur, rfl, _, _, hnc, _⟩
      · simp [Builtin.append_, run_underlying ht, sizeOf, typeInfo, hi, Builtin.lenOf, Builtin.firstCells]
      · simp [Builtin.append_, run_underlying ht, sizeOf, typeInfo, hi, Builtin.lenOf, Builtin.firstCells, hnc, storeCells]
    unfold Oper.wp execOp
    simp only [ho, resolve, invoke, builtin, Sem.run_bind, Sem.run_pure, Result.andThen_ok, List.map_toArray, List.map_cons, List.map_nil, hs, hx, hr]
    exact hK _ _ (h v w (by rw [List.append_nil]; exact ⟨cs, b1, b2⟩) fun _ _ hx => hx)
  | some ad =>
    obtain ⟨hI, hc⟩ := hy.ints_some
    have hl := hb.lt
    obtain ⟨cs, b1, b2, b3, b4, b5⟩ := hb
    refine wpList_append_own_at w hgd s x t ho base e i z intO.n 8 ht hi hz hsize hby2 hzs (by decide) v xs.length cs hs b1 ad n k (ys.map (Value.int .i64)) hx (by rw [List.length_map, hn]; exact (Nat.mul_one _).symm) hc (fun u hu => by
      obtain ⟨y, _, rfl⟩ := List.mem_map.1 hu; rfl) (by unfold maxLen; omega) (by omega) hbase ?_
    intro v' w' hown hgr _ hat
    refine h v' w' ⟨cs ++ ys.map (Value.int .i64), by rw [List.length_append, ← hn]; exact hown, ?_, fun _ _ hm => (by cases hm), List.nodup_nil, fun _ hm => by cases hm⟩ fun w0 h0 hx0 => hx0.grown hgr fun g hg => Nat.le_trans h0 (hl.2 g hg).2
    have := OwnCells.append (b2.keep (w2 := w') fun b hb => by cases hb) (ints_own ys hI w')
    simpa using this
end Go.Proofs.YtfieimmlcopbhaaDoor
