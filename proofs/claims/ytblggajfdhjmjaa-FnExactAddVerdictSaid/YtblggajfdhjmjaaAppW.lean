/-
  PLAIN LAW: 'append(s, t...)' of verdicts, as a step of a region that draws its order; slices.Clone with its row ready to grow.
-/
import Derived.Test.YtblggajfdhjmjaaCloV
import Derived.Test.YtblggajfdhjmjaaRegJ
import Derived.Deep.AppendLies
namespace Go.Proofs.Ytblggajfdhjmjaa
open Go.RowKit

theorem Bld.empv {α : Type} {R : RepO α} {W : World} {base g : Nat} {e : TypeId} (hb : base ≤ g) (h : W.heap[g]? = some (.cells #[] e (0, 0))) : Bld R W base e (.slice (some ⟨g, 0, none⟩) 0 0) ([] : List α) [] :=
  ⟨[], ⟨by simp, .inr ⟨g, 0, #[], rfl, hb, h, Nat.le_refl _, Nat.zero_le _, by simp, by simp⟩⟩, .nil, fun _ _ h => (by cases h), List.nodup_nil, fun _ h => by cases h⟩
theorem Sl.ver_none {w : World} {n cap : Nat} {ys : List Verdict} (h : Sl verdictR w (.slice none n cap) ys) : ys = [] := by
  cases ys with
  | nil => rfl
  | cons y ys =>
    obtain ⟨_, _, _, e, _⟩ := h.at_ (show 0 < (y :: ys).length by simp)
    cases e
theorem step_appv {P : Program} {ops : Array Oper} {o : Oper} {a : Act} {w : World} {K : Act → World → Prop} {Q : Exit → Act → World → Prop} {Z : Prop} {t e : TypeId} {bytes : Nat} (E : ElemT P t e verdictO.n bytes) (hby : bytes ≤ 128)
    (hgd : o.guard = none) (s x : Operand) (ho : o.op = .call { callee := .builtin .append, args := #[s, x], argTypes := #[t, t] })
    {base : Nat} {v : Value} {xs : List Verdict} (hb : Bld verdictO w base e v xs []) (hs : a.eval s = v) {A : Option Addr} {n k : Nat} (hx : a.eval x = .slice A n k) {ys : List Verdict} (hy : Sl verdictR w (.slice A n k) ys)
    (hbytes : xs.length + ys.length ≤ 1099511627776) (hbase : base ≤ w.heap.size) {w0 : World} (h0 : w0.heap.size ≤ base) (hx0 : Ext w0 w)
    (h : ∀ v' w', Bld verdictO w' base e v' (xs ++ ys) [] → Ext w0 w' → (∀ b, b < w.heap.size → v.ownBlock ≠ some b → w'.heap[b]? = w.heap[b]?) → K (a.put o.dst v') w') :
    if Region.wanted o (yielded ops a.tmps) = true then Oper.wp P o a w K Q else Z := by
  have hw : Region.wanted o (yielded ops a.tmps) = true := by simp [Region.wanted, hgd]
  rw [if_pos hw]
  obtain ⟨ht, i, z, hi, hz, hsize, hby2, hzs⟩ := E
  have hn : n = ys.length := hy.cap_.1
  by_cases hm : 0 < n
  · cases A with
    | none => rw [hy.ver_none] at hn; simp at hn; omega
    | some ad =>
      obtain ⟨hI, hc⟩ := hy.vers_some
      have hl := hb.lt
      obtain ⟨cs, b1, b2, b3, b4, b5⟩ := hb
      have h4 : verdictO.n = 4 := rfl
      refine wp_append_lies w s x t ho base e i z verdictO.n bytes ht hi hz hsize hby2 hzs (by decide) v xs.length cs hs b1 ad n k (ys.flatMap Verdict.cells) hx (by rw [vflat_len, hn, h4]) hc (vers_one ys) hm (by unfold maxLen; omega)
        (Nat.le_trans (Nat.mul_le_mul (show xs.length + n ≤ 1099511627776 by omega) hby) (by decide)) hbase w.heap.size rfl ?_
      intro g' cap w' hown hgr hat _
      refine h _ _ ⟨cs ++ ys.flatMap Verdict.cells, by rw [List.length_append, ← hn]; exact hown, ?_, fun _ _ hm => (by cases hm), List.nodup_nil, fun _ hm => by cases hm⟩ (hx0.grown hgr fun g hg => Nat.le_trans h0 (hl.2 g hg).2) fun b hb2 hne => hgr.block b hb2 (fun e => hne e.symm)
      have := OwnCells.append (b2.keep (w2 := w') fun b hb => by cases hb) (vers_own ys hI w')
      simpa using this
  · have hn0 : n = 0 := by omega
    subst hn0
    have hys : ys = [] := List.eq_nil_of_length_eq_zero hn.symm
    subst hys
    have hb0 := hb
    obtain ⟨cs, b1, b2⟩ := hb
    have hr : (Builtin.append_ #[t, t] o.type #[v, .slice A 0 k]).run P w = .ok v w := by
      rcases b1.2 with ⟨rfl, _⟩ | ⟨g, cap, cur, rfl, _, _, hnc, _⟩
      · cases A <;> simp [Builtin.append_, run_underlying ht, sizeOf, typeInfo, hi, Builtin.lenOf, Builtin.firstCells, storeCells, loadCells, loadCellsFrom]
      · cases A <;> simp [Builtin.append_, run_underlying ht, sizeOf, typeInfo, hi, Builtin.lenOf, Builtin.firstCells, hnc, storeCells, loadCells, loadCellsFrom]
    unfold Oper.wp execOp
    simp only [ho, resolve, invoke, builtin, Sem.run_bind, Sem.run_pure, Result.andThen_ok, List.map_toArray, List.map_cons, List.map_nil, hs, hx, hr]
    exact h v w (by rw [List.append_nil]; exact hb0) hx0 fun _ _ _ => rfl

set_option maxHeartbeats 400000 in
set_option maxRecDepth 20000 in
theorem slices_Clone_vB (v : Value) (xs : List Verdict) (w : World) (h : Sl verdictR w v xs) (hl : xs.length ≤ 1048576) :
    Calls Try.prog 18 #[v] w fun e w2 => ∃ v2, e = .returned v2 ∧ Bld verdictO w2 w.heap.size 30 v2 xs [] ∧ Ext w w2 := by
  obtain ⟨A, cap, rfl, hm⟩ := h.form
  have q := fun (W : World) (a : Option Addr) (n c n' c' : Nat) => Lib.run_eql_slice_nil (P := Try.prog) W 26 30 a n c n' c' Try.underlying26
  cases A with
  | none =>
    have h0 := h.ver_none
    subst h0
    go_enter Try.func18, Try.ntmps18
    go_wp2
    go_ret
    exact ⟨_, rfl, Bld.nil _ _ _, Ext.refl _⟩
  | some ad =>
    go_enter Try.func18, Try.ntmps18
    go_wp2_with (at_builtin; refine wpList_appv elemVer (by decide) rfl _ _ rfl (Bld.lit w (Nat.le_refl _) _) rfl rfl (h.mono ((Ext.refl _).alloc _)) (by simp; omega) (by simp) ?_; intro v9 w9 hB9 hE9)
    go_ret
    exact ⟨_, rfl, by simpa using hB9, hE9 w (Nat.le_refl _) ((Ext.refl _).alloc _)⟩
end Go.Proofs.Ytblggajfdhjmjaa
