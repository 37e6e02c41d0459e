/-
  SEVERAL SMALL TEXTS LAID TOGETHER: DrawM, AppG, ElemE, AsgV, AppN, Count, Change, V2, EqEnt, AppP, Tab, Mems, Grp, OvS, TabI, App1h, GrpI, OvI, TabS, Best, BestV, BestI.
-/
import Derived.Test.YtfcbapaojoecgabMgEndFnId0
import Derived.Deep.AppendLies
import Derived.Test.YtfcbapaojoecgabMgEndFnId2
import Derived.Laws.OwnMore
import Derived.Test.YtfcbapaojoecgabMgEndFnId1
import Derived.StillTailTactics
import Derived.Deep.QuietTactic
import Derived.BigQuiet
import Derived.Deep.RegionHeld3

namespace Go.Proofs.Ytfcbapaojoecgab
open Go.RowKit

theorem Cur.base {w0 w : World} {g : Nat} (h : Cur w0 w g) : Ext w0 w ∧ w0.heap.size ≤ g ∧ g < w.heap.size := by
  obtain ⟨A, cap, bs, p, hh, h1, h2, h3, h4, h5⟩ := h
  exact ⟨h2, h3, block_lt h4⟩
theorem Bld.kept {α : Type} {R : RepO α} {w w2 : World} {base g : Nat} {e : TypeId} {v : Value} {xs : List α} {F : List Nat} (h : Bld R w base e v xs F) (hg : g < base) (k : Kept g w w2) : Bld R w2 base e v xs F :=
  h.keep fun b hb hl => k.2 b hl (by omega)
theorem OwnSl.kept {α : Type} {R : RepO α} {w w2 : World} {g : Nat} {v : Value} {xs : List α} {F : List Nat} (h : OwnSl R w v xs F) (hg : g ∉ F) (k : Kept g w w2) : OwnSl R w2 v xs F :=
  h.keep fun b hb => k.2 b (h.lt b hb) (fun e => hg (e ▸ hb))
/-- an append; what it leaves, block by block -/
theorem wpList_app1g {P : Program} {α : Type} {R : RepO α} {ops : Array Oper} {rest : List Oper} {o : Oper} {a : Act} {W : World} {Q : Exit → Act → World → Prop} {t e : TypeId} {bytes : Nat} (E : ElemT P t e R.n bytes) (hsz : 0 < R.n)
    (hgd : o.guard = none) (s x : Operand) (ho : o.op = .call { callee := .builtin .append, args := #[s, x], argTypes := #[t, t] })
    {base : Nat} {v : Value} {xs : List α} {F : List Nat} (hb : Bld R W base e v xs F) (hs : a.eval s = v) {c : Array Value} {T : TypeId} (g k : Nat) (hx : a.eval x = .slice (some ⟨g, 0, none⟩) 1 k) (hg : g = W.heap.size)
    (h1 : ∀ u ∈ c.toList, u.oneCell' = true) {y : α} {G : List Nat} (hy : R.own W c.toList y G) (hG : (∀ b ∈ G, b ∉ F ∧ v.ownBlock ≠ some b) ∧ G.Nodup ∧ ∀ b ∈ G, base ≤ b)
    (hbytes : xs.length + 1 ≤ 1099511627776) (hby : bytes ≤ 128) (hbase : base ≤ W.heap.size)
    (h : ∀ v' w', Bld R w' base e v' (xs ++ [y]) (F ++ G) → (∀ w0 : World, w0.heap.size ≤ base → Ext w0 W → Ext w0 w') → W.heap.size ≤ w'.heap.size → (∀ b, b < base → w'.heap[b]? = W.heap[b]?) → wpList P ops Q rest (a.put o.dst v') w') :
    wpList P ops Q (o :: rest) a (W.alloc (.cells c T)) := by
  obtain ⟨ht, i, z, hi, hz, hsize, hby2, hzs⟩ := E
  have x1 : Ext W (W.alloc (.cells c T)) := (Ext.refl W).alloc _
  have hb1 := hb.ext x1
  have hl := hb1.lt
  obtain ⟨cs, b1, b2, b3, b4, b5⟩ := hb1
  have hy1 : R.own (W.alloc (.cells c T)) c.toList y G := R.own_keep (fun b hb => x1.block (R.own_lt hy b hb)) hy
  refine wpList_append_own_at (W.alloc (.cells c T)) hgd s x t ho base e i z R.n bytes ht hi hz hsize hby2 hzs hsz v xs.length cs hs b1 ⟨g, 0, none⟩ 1 k c.toList hx (by rw [R.len (R.own_rd hy), Nat.one_mul]) (fun j u hj => ?_) h1
    (by unfold maxLen; omega) (Nat.le_trans (Nat.mul_le_mul hbytes hby) (by decide)) (Nat.le_trans hbase x1.size) ?_
  · subst hg
    have : (W.alloc (.cells c T)).cell? ⟨W.heap.size, j, none⟩ = c[j]? := ((Ext.refl (W.alloc (.cells c T))).box).1 j
    rw [add_eq, Nat.zero_add, this]
    simpa using hj
  · intro v' w' hown hgr _ hat
    obtain ⟨h5, h6⟩ := bld_grown hl b2 b3 b4 b5 hy1 hG hown hgr hat
    refine h _ _ h5 (fun w0 h7 h8 => h6 w0 h7 (h8.trans x1)) (Nat.le_trans x1.size hgr.size) fun b hb => ?_
    have hbW : b < W.heap.size := by omega
    rw [hgr.block b (Nat.lt_of_lt_of_le hbW x1.size) (fun e => by have := (hl.2 b e.symm).2; omega), x1.block hbW]

set_option maxHeartbeats 400000 in
theorem spec_l1PickInt (w0 w : World) (g : Nat) (v : Value) (xs : List Int) (hl : 1 ≤ xs.length ∧ xs.length ≤ 256) (hc : Cur w0 w g) (hs : ∀ w2, Kept g w w2 → Sl intR w2 v xs) :
    Calls Try.prog 56 #[.pointer (some ⟨g, 0, none⟩), v] w fun e w2 => ∃ x, e = .returned (.int .i64 x) ∧ I64 x ∧ Cur w0 w2 g ∧ Kept g w w2 := by
  obtain ⟨A, cap, rfl, hm⟩ := (hs w (Kept.refl _ _)).form
  go_enter Try.func56, Try.ntmps56
  go_wp2_with fail
  refine (spec_l1Below w0 w g xs.length (by omega) hc).mono ?_
  rintro e w2 ⟨x, rfl, hx, hc2, hk⟩
  obtain ⟨j, rfl⟩ : ∃ j : Nat, x = j := ⟨x.toNat, by omega⟩
  have hj : j < xs.length := by omega
  obtain ⟨b, off, rfl, hI, hcell⟩ := (hs w2 hk).int hj
  go_wp2
  go_ret
  exact ⟨_, rfl, hI, hc2, hk⟩

set_option maxHeartbeats 400000 in
set_option maxRecDepth 20000 in
theorem spec_l1New (w : World) (v : Value) (bs : List Int) (h : Sl u8R w v bs) :
    Calls Try.prog 53 #[v] w fun e w2 => e = .returned (.pointer (some ⟨w.heap.size, 0, none⟩)) ∧ Cur w w2 w.heap.size ∧ Ext w w2 := by
  obtain ⟨A, cap, rfl, hm⟩ := h.form
  go_enter Try.func53, Try.ntmps53
  go_wp2
  go_loop [3, 4] (fun x i => ∃ (k : Nat) (u : Int), k ≤ bs.length ∧ i = .int .i64 k ∧ x = .int .i64 u ∧ I64 u) (fun _ i => bs.length - (intOf i).toNat)
  case atStart => exact ⟨0, _, Nat.zero_le _, rfl, rfl, by unfold I64; first | omega | (unfold wrap64; omega)⟩
  case round =>
    obtain ⟨k, u, hk, rfl, rfl, hu⟩ := hrel
    have hu' := hu.out
    by_cases hlt : k < bs.length
    · by_cases h4 : k < 4000
      · obtain ⟨b, off, rfl, hbd, hcb⟩ := h.u8 hlt
        go_wp2
        go_round
        case rel => exact ⟨k + 1, _, by omega, by go_num, rfl, by rw [i64_and30]; unfold I64; omega⟩
        case measure => simp [intOf]; omega
      · go_wp2
        go_ret
        exact ⟨rfl, ⟨A, cap, bs, 0, u, h, (Ext.refl _).alloc _, Nat.le_refl _, Blk.new w _ _, Nat.zero_le _, hu⟩, (Ext.refl _).alloc _⟩
    · go_wp2
      go_ret
      exact ⟨rfl, ⟨A, cap, bs, 0, u, h, (Ext.refl _).alloc _, Nat.le_refl _, Blk.new w _ _, Nat.zero_le _, hu⟩, (Ext.refl _).alloc _⟩

theorem lit_kept {w w2 : World} {g : Nat} {T : TypeId} {xs : List Int} {cs : Array Value} (hcs : cs.toList = xs.map (Value.int .i64)) (h : ∀ x ∈ xs, I64 x) (hl : xs.length ≤ maxLen) (hg : g < w.heap.size) (k : Kept g (w.alloc (.cells cs T)) w2) :
    OwnSl intO w2 (.slice (some ⟨w.heap.size, 0, none⟩) xs.length xs.length) xs [w.heap.size] := by
  have hb := Blk.new w T cs
  rw [hcs] at hb
  exact (OwnSl.of_blk hb hl (ints_cells _ _ h)).kept (by simp; omega) k

end Go.Proofs.Ytfcbapaojoecgab

namespace Go.Proofs.Ytfcbapaojoecgab
open Go.RowKit

theorem ownsRowG_lt {w : World} {base n : Nat} {e : TypeId} {m : Nat} {v : Value} {cs : List Value} (h : w.ownsRow base e n v m cs) : ∀ g, v.ownBlock = some g → g < w.heap.size ∧ base ≤ g := fun g hg => by
  rcases h.2 with ⟨rfl, _⟩ | ⟨g', cap, cur, rfl, hb, hh, _⟩
  · cases hg
  · injection hg with hg
    subst hg
    exact ⟨block_lt hh, hb⟩
theorem step_appg {P : Program} {ops : Array Oper} {o : Oper} {a : Act} {w : World} {K : Act → World → Prop} {Q : Exit → Act → World → Prop} {Z : Prop} {t e : TypeId} {bytes sz : Nat} (hsz : 0 < sz) (E : ElemT P t e sz bytes) (hby : bytes ≤ 128)
    (hgd : o.guard = none) (s x : Operand) (ho : o.op = .call { callee := .builtin .append, args := #[s, x], argTypes := #[t, t] })
    {base m : Nat} {v : Value} {cs : List Value} (hb : w.ownsRow base e sz v m cs) (hs : a.eval s = v) {A : Option Addr} {n k : Nat} (hx : a.eval x = .slice A n k) {news : List Value} (hl : news.length = n * sz)
    (hc : 0 < n → ∃ ad, A = some ad ∧ ∀ j u, news[j]? = some u → w.cell? (ad.add j) = some u) (h1 : ∀ u ∈ news, u.oneCell' = true)
    (hbytes : m + n ≤ 1099511627776) (hbase : base ≤ w.heap.size) {w0 : World} (h0 : w0.heap.size ≤ base) (hx0 : Ext w0 w)
    (h : ∀ v' w', w'.ownsRow base e sz v' (m + n) (cs ++ news) → Ext w0 w' → (∀ b, b < w.heap.size → v.ownBlock ≠ some b → w'.heap[b]? = w.heap[b]?) → K (a.put o.dst v') w') :
    if Region.wanted o (yielded ops a.tmps) = true then Oper.wp P o a w K Q else Z := by
  have hw : Region.wanted o (yielded ops a.tmps) = true := by simp [Region.wanted, hgd]
  rw [if_pos hw]
  obtain ⟨ht, i, z, hi, hz, hsize, hby2, hzs⟩ := E
  by_cases hm : 0 < n
  · obtain ⟨ad, rfl, hcc⟩ := hc hm
    refine wp_append_lies w s x t ho base e i z sz bytes ht hi hz hsize hby2 hzs hsz v m cs hs hb ad n k news hx hl hcc h1 hm (by unfold maxLen; omega)
      (Nat.le_trans (Nat.mul_le_mul (show m + n ≤ 1099511627776 by omega) hby) (by decide)) hbase w.heap.size rfl ?_
    intro g' cap w' hown hgr _ _
    exact h _ _ hown (hx0.grown hgr fun g hg => Nat.le_trans h0 (ownsRowG_lt hb g hg).2) fun b hb2 hne => hgr.block b hb2 (fun e => hne e.symm)
  · have hn0 : n = 0 := by omega
    subst hn0
    have hys : news = [] := List.eq_nil_of_length_eq_zero (by rw [hl, Nat.zero_mul])
    subst hys
    have hb0 := hb
    have hr : (Builtin.append_ #[t, t] o.type #[v, .slice A 0 k]).run P w = .ok v w := by
      rcases hb.2 with ⟨rfl, _⟩ | ⟨g, cap, cur, rfl, _, _, hnc, _⟩
      · cases A <;> simp [Builtin.append_, run_underlying ht, sizeOf, typeInfo, hi, Builtin.lenOf, Builtin.firstCells, storeCells, loadCells, loadCellsFrom]
      · cases A <;> simp [Builtin.append_, run_underlying ht, sizeOf, typeInfo, hi, Builtin.lenOf, Builtin.firstCells, hnc, storeCells, loadCells, loadCellsFrom]
    unfold Oper.wp execOp
    simp only [ho, resolve, invoke, builtin, Sem.run_bind, Sem.run_pure, Result.andThen_ok, List.map_toArray, List.map_cons, List.map_nil, hs, hx, hr]
    exact h v w (by rw [List.append_nil]; exact hb0) hx0 fun _ _ _ => rfl

theorem Sl.cells_at {α : Type} {R : Rep α} {w : World} : ∀ (xs : List α) (b off : Nat), (∀ i (hi : i < xs.length), ∃ cs, R.rd w cs xs[i] ∧ ∀ j, j < R.n → w.cell? ⟨b, off + i * R.n + j, none⟩ = cs[j]?) →
    ∃ cs, OwnCells (atO R w) w cs xs [] ∧ cs.length = xs.length * R.n ∧ ∀ j, j < xs.length * R.n → w.cell? ⟨b, off + j, none⟩ = cs[j]?
  | [], b, off, _ => ⟨[], .nil, by simp, fun j hj => by simp at hj⟩
  | x :: xs, b, off, h => by
    obtain ⟨c, h1, h2⟩ := h 0 (by simp)
    obtain ⟨d, k1, k2, k3⟩ := Sl.cells_at xs b (off + R.n) (fun i hi => by
      obtain ⟨cs, a1, a2⟩ := h (i + 1) (by simpa using hi)
      refine ⟨cs, by simpa using a1, fun j hj => ?_⟩
      rw [← a2 j hj, Nat.add_mul, show off + R.n + i * R.n + j = off + (i * R.n + 1 * R.n) + j by omega])
    have hc : c.length = R.n := R.len h1
    refine ⟨c ++ d, ⟨c, d, [], [], rfl, rfl, ⟨by simpa using h1, rfl⟩, k1⟩, ?_, fun j hj => ?_⟩
    · rw [List.length_append, hc, k2, List.length_cons, Nat.add_mul]; omega
    · rw [List.length_cons, Nat.add_mul, Nat.one_mul] at hj
      by_cases hlt : j < R.n
      · rw [List.getElem?_append_left (by omega), ← h2 j hlt]
        simp
      · rw [List.getElem?_append_right (by omega), hc, ← k3 (j - R.n) (by omega), show off + R.n + (j - R.n) = off + j by omega]
/-- a slice's cells -/
theorem Sl.cells_ {α : Type} {R : Rep α} {w : World} {A : Option Addr} {n k : Nat} {ys : List α} (h : Sl R w (.slice A n k) ys) : ∃ cs, OwnCells (atO R w) w cs ys [] ∧ cs.length = n * R.n ∧ (0 < n → ∃ ad, A = some ad ∧ ∀ (W : World), Ext w W → ∀ j u, cs[j]? = some u → W.cell? (ad.add j) = some u) := by
  have hn : n = ys.length := h.cap_.1
  subst hn
  cases hy : ys with
  | nil => exact ⟨[], .nil, by simp, fun h => by simp at h⟩
  | cons y l =>
    rw [← hy]
    have h0 : 0 < ys.length := by rw [hy]; simp
    obtain ⟨b, off, _, e, _⟩ := h.at_ h0
    subst e
    obtain ⟨cs, k1, k2, k3⟩ := Sl.cells_at ys b off (fun i hi => by
      obtain ⟨b2, off2, c, e, a1, a2⟩ := h.at_ hi
      injection e with e
      injection e with e1 e2 _
      subst e1
      subst e2
      exact ⟨c, a1, a2⟩)
    refine ⟨cs, k1, k2, fun _ => ⟨_, rfl, fun W hW j u hu => ?_⟩⟩
    have hj : j < ys.length * R.n := by rw [← k2]; exact (List.getElem?_eq_some_iff.1 hu).1
    rw [show (⟨b, off, none⟩ : Addr).add j = ⟨b, off + j, none⟩ by by_cases h0 : j = 0 <;> simp [Addr.add, h0]]
    exact hW.cell ((k3 j hj).trans hu)
/-- such elements, appended -/
theorem step_appS {P : Program} {α : Type} {R : Rep α} {ops : Array Oper} {o : Oper} {a : Act} {w : World} {K : Act → World → Prop} {Q : Exit → Act → World → Prop} {Z : Prop} {t e : TypeId} {bytes : Nat} (hsz : 0 < R.n) (E : ElemT P t e R.n bytes) (hby : bytes ≤ 128)
    (hone : ∀ (w : World) cs x, R.rd w cs x → ∀ u ∈ cs, u.oneCell' = true)
    (hgd : o.guard = none) (s x : Operand) (ho : o.op = .call { callee := .builtin .append, args := #[s, x], argTypes := #[t, t] })
    {base : Nat} {v : Value} {xs ys : List α} {w1 : World} (hb : Bld (atO R w1) w base e v xs []) (hs : a.eval s = v) {A : Option Addr} {n k : Nat} (hx : a.eval x = .slice A n k) (hy : Sl R w1 (.slice A n k) ys) (hxw : Ext w1 w)
    (hbytes : xs.length + n ≤ 1099511627776) (hbase : base ≤ w.heap.size) {w0 : World} (h0 : w0.heap.size ≤ base) (hx0 : Ext w0 w)
    (h : ∀ v' w', Bld (atO R w1) w' base e v' (xs ++ ys) [] → Ext w0 w' → (∀ b, b < w.heap.size → v.ownBlock ≠ some b → w'.heap[b]? = w.heap[b]?) → K (a.put o.dst v') w') :
    if Region.wanted o (yielded ops a.tmps) = true then Oper.wp P o a w K Q else Z := by
  obtain ⟨news, k1, k2, k3⟩ := hy.cells_
  have hn : n = ys.length := hy.cap_.1
  obtain ⟨cs, b1, b2, b3, b4, b5⟩ := hb
  have one : ∀ {xs : List α} {cs : List Value} {F : List Nat}, OwnCells (atO R w1) w1 cs xs F → ∀ u ∈ cs, u.oneCell' = true := by
    intro xs
    induction xs with
    | nil => intro cs F h u hu; rw [h.1] at hu; cases hu
    | cons x xs ih =>
      rintro cs F ⟨c, d, F1, F2, rfl, _, ⟨h2, _⟩, h4⟩ u hu
      rcases List.mem_append.1 hu with hu | hu
      · exact hone w1 c x h2 u hu
      · exact ih h4 u hu
  refine step_appg hsz E hby hgd s x ho b1 hs hx k2 (fun hp => by
    obtain ⟨ad, e1, e2⟩ := k3 hp
    exact ⟨ad, e1, fun j u hu => e2 w hxw j u hu⟩) (one k1) hbytes hbase h0 hx0 ?_
  intro v' w' hown hE hk
  refine h v' w' ⟨cs ++ news, by rw [List.length_append, ← hn]; exact hown, ?_, fun _ _ hm => (by cases hm), List.nodup_nil, fun _ hm => by cases hm⟩ hE hk
  have := OwnCells.append (b2.keep (w2 := w') fun b hb => by cases hb) (k1.keep (w2 := w') fun b hb => by cases hb)
  simpa using this
end Go.Proofs.Ytfcbapaojoecgab

namespace Go.Proofs.Ytfcbapaojoecgab
open Go.RowKit

theorem elemEnt : ElemT Try.prog 26 42 entityO.n 32 := by
  obtain ⟨i, h1, h2, h3, h4⟩ := info_parts infoEnt
  exact ⟨Try.underlying26, i, _, h1, h2, h3, h4, rfl⟩
end Go.Proofs.Ytfcbapaojoecgab

namespace Go.Proofs.Ytfcbapaojoecgab
open Go.RowKit

def valAt (m : List (List Int)) (a : List Int) (j : Nat) : Int := if 0 ≤ a.getD j 0 then (m.getD j []).getD (a.getD j 0).toNat 0 else 0
def sumTo (m : List (List Int)) (a : List Int) : Nat → Int
  | 0 => 0
  | k + 1 => sumTo m a k + valAt m a k
noncomputable def asgVal (m : List (List Int)) (a : List Int) : Int := if okAsg m a then sumTo m a a.length else -1

theorem okMat_at {m : List (List Int)} (h : okMat m = true) {i : Nat} (hi : i < m.length) : m[i].length = width m ∧ m[i].length ≤ 8 ∧ ∀ x ∈ m[i], 0 ≤ x ∧ x ≤ 100 := by
  unfold okMat at h
  rw [Bool.and_eq_true] at h
  have := List.all_eq_true.1 h.1 m[i] (List.getElem_mem hi)
  simp only [okRow, Bool.and_eq_true, beq_iff_eq, decide_eq_true_eq] at this
  exact ⟨this.1.1, this.1.2, fun x hx => inB_iff.1 (List.all_eq_true.1 this.2 x hx)⟩
theorem okMat_len {m : List (List Int)} (h : okMat m = true) : m.length ≤ 8 := by
  unfold okMat at h
  rw [Bool.and_eq_true] at h
  simpa using h.2
theorem getD_bd {l : List Int} (h : ∀ x ∈ l, 0 ≤ x ∧ x ≤ 100) (k : Nat) : 0 ≤ l.getD k 0 ∧ l.getD k 0 ≤ 100 := by
  by_cases hk : k < l.length
  · rw [getD_at hk]; exact h _ (List.getElem_mem hk)
  · simp [List.getD, hk]
theorem valAt_bd {m : List (List Int)} (h : okMat m = true) (a : List Int) (j : Nat) : 0 ≤ valAt m a j ∧ valAt m a j ≤ 100 := by
  unfold valAt
  split
  · by_cases hj : j < m.length
    · rw [getD_at hj]; exact getD_bd (okMat_at h hj).2.2 _
    · simp [List.getD, hj]
  · omega
theorem sumTo_bd {m : List (List Int)} (h : okMat m = true) (a : List Int) (k : Nat) : 0 ≤ sumTo m a k ∧ sumTo m a k ≤ 100 * k := by
  induction k with
  | zero => simp [sumTo]
  | succ k ih =>
    have := valAt_bd h a k
    simp only [sumTo]; omega
theorem okAsg_parts {m : List (List Int)} {a : List Int} (h : okAsg m a = true) : okMat m = true ∧ a.length = m.length ∧ ∀ j, j < a.length → pickAt m a j = true := by
  unfold okAsg at h
  simp only [Bool.and_eq_true, beq_iff_eq] at h
  exact ⟨h.1.1, h.1.2, fun j hj => List.all_eq_true.1 h.2 j (List.mem_range.2 hj)⟩
theorem pick_in {r prev : List Int} {x : Int} (h : pickOk r prev x = true) (h0 : 0 ≤ x) : x.toNat < r.length := by
  unfold pickOk at h
  simp only [Bool.or_eq_true, beq_iff_eq, Bool.and_eq_true] at h
  rcases h with h | h
  · omega
  · have := inB_iff.1 h.1.1; omega
theorem valAt_yes {m : List (List Int)} {a : List Int} {k : Nat} (hm : k < m.length) (ha : k < a.length) (h0 : 0 ≤ a[k]) (hr : a[k].toNat < m[k].length) : valAt m a k = m[k][a[k].toNat] := by
  unfold valAt; rw [getD_at hm, getD_at ha, if_pos h0, getD_at hr]
theorem valAt_no {m : List (List Int)} {a : List Int} {k : Nat} (ha : k < a.length) (h0 : ¬ 0 ≤ a[k]) : valAt m a k = 0 := by
  unfold valAt; rw [getD_at ha, if_neg h0]

end Go.Proofs.Ytfcbapaojoecgab

namespace Go.Proofs.Ytfcbapaojoecgab
open Go.RowKit

theorem ints_own (xs : List Int) (h : ∀ x ∈ xs, I64 x) (W : World) : OwnCells intO W (xs.map (Value.int .i64)) xs [] := by
  induction xs with
  | nil => exact .nil
  | cons x xs ih => exact ⟨[.int .i64 x], _, [], [], rfl, rfl, ⟨⟨rfl, h x (List.mem_cons_self ..)⟩, rfl⟩, ih fun y hy => h y (List.mem_cons_of_mem _ hy)⟩
theorem Sl.ints_some {w : World} {ad : Addr} {n cap : Nat} {xs : List Int} (h : Sl intR w (.slice (some ad) n cap) xs) : (∀ x ∈ xs, I64 x) ∧ ∀ j u, (xs.map (Value.int .i64))[j]? = some u → w.cell? (ad.add j) = some u := by
  refine ⟨fun x hx => ?_, fun j u hj => ?_⟩
  · obtain ⟨i, hi, rfl⟩ := List.getElem_of_mem hx
    obtain ⟨_, _, _, h1, _⟩ := h.int hi
    exact h1
  · rw [List.getElem?_map] at hj
    obtain ⟨x, hx, rfl⟩ := Option.map_eq_some_iff.1 hj
    obtain ⟨hi, hx⟩ := List.getElem?_eq_some_iff.1 hx
    obtain ⟨b, off, e, h1, hc⟩ := h.int hi
    injection e with e
    subst e
    rw [add_eq, hc, hx]
/-- 'append(s, t...)': the ints of t, which may be the caller's -/
theorem wpList_appn {P : Program} {ops : Array Oper} {rest : List Oper} {o : Oper} {a : Act} {w : World} {Q : Exit → Act → World → Prop} {t e : TypeId} (E : ElemT P t e intO.n 8)
    (hgd : o.guard = none) (s x : Operand) (ho : o.op = .call { callee := .builtin .append, args := #[s, x], argTypes := #[t, t] })
    {base : Nat} {v : Value} {xs : List Int} (hb : Bld intO w base e v xs []) (hs : a.eval s = v) {A : Option Addr} {n k : Nat} (hx : a.eval x = .slice A n k) {ys : List Int} (hy : Sl intR w (.slice A n k) ys)
    (hbytes : xs.length + ys.length ≤ 1099511627776) (hbase : base ≤ w.heap.size)
    (h : ∀ v' w', Bld intO w' base e v' (xs ++ ys) [] → (∀ w0 : World, w0.heap.size ≤ base → Ext w0 w → Ext w0 w') → wpList P ops Q rest (a.put o.dst v') w') :
    wpList P ops Q (o :: rest) a w := by
  obtain ⟨ht, i, z, hi, hz, hsize, hby2, hzs⟩ := E
  have hn : n = ys.length := hy.cap_.1
  cases A with
  | none =>
    have h0 : ys = [] := by
      cases ys with
      | nil => rfl
      | cons y ys =>
        obtain ⟨_, _, _, e, _⟩ := hy.at_ (show 0 < (y :: ys).length by simp)
        cases e
    subst h0
    have hn0 : n = 0 := hn
    subst hn0
    obtain ⟨cs, b1, b2⟩ := hb
    refine wpList_plain hgd fun K hK => ?_
    have hr : (Builtin.append_ #[t, t] o.type #[v, .slice none 0 k]).run P w = .ok v w := by
      rcases b1.2 with ⟨rfl, _⟩ | ⟨g, cap, cur, rfl, _, _, hnc, _⟩
      · simp [Builtin.append_, run_underlying ht, sizeOf, typeInfo, hi, Builtin.lenOf, Builtin.firstCells]
      · simp [Builtin.append_, run_underlying ht, sizeOf, typeInfo, hi, Builtin.lenOf, Builtin.firstCells, hnc, storeCells]
    unfold Oper.wp execOp
    simp only [ho, resolve, invoke, builtin, Sem.run_bind, Sem.run_pure, Result.andThen_ok, List.map_toArray, List.map_cons, List.map_nil, hs, hx, hr]
    exact hK _ _ (h v w (by rw [List.append_nil]; exact ⟨cs, b1, b2⟩) fun _ _ hx => hx)
  | some ad =>
    obtain ⟨hI, hc⟩ := hy.ints_some
    have hl := hb.lt
    obtain ⟨cs, b1, b2, b3, b4, b5⟩ := hb
    refine wpList_append_own_at w hgd s x t ho base e i z intO.n 8 ht hi hz hsize hby2 hzs (by decide) v xs.length cs hs b1 ad n k (ys.map (Value.int .i64)) hx (by rw [List.length_map, hn]; exact (Nat.mul_one _).symm) hc (fun u hu => by
      obtain ⟨y, _, rfl⟩ := List.mem_map.1 hu; rfl) (by unfold maxLen; omega) (by omega) hbase ?_
    intro v' w' hown hgr _ hat
    refine h v' w' ⟨cs ++ ys.map (Value.int .i64), by rw [List.length_append, ← hn]; exact hown, ?_, fun _ _ hm => (by cases hm), List.nodup_nil, fun _ hm => by cases hm⟩ fun w0 h0 hx0 => hx0.grown hgr fun g hg => Nat.le_trans h0 (hl.2 g hg).2
    have := OwnCells.append (b2.keep (w2 := w') fun b hb => by cases hb) (ints_own ys hI w')
    simpa using this
end Go.Proofs.Ytfcbapaojoecgab

namespace Go.Proofs.Ytfcbapaojoecgab
open Go.RowKit

def cntIn (xs ys : List Int) : Nat := (xs.filter fun n => hasI n ys).length
theorem cntIn_step (xs ys : List Int) (k : Nat) (h : k < xs.length) : cntIn (xs.take (k + 1)) ys = cntIn (xs.take k) ys + if hasI xs[k] ys then 1 else 0 := by
  unfold cntIn
  rw [List.take_succ_eq_append_getElem h, List.filter_append, List.length_append]
  by_cases e : hasI xs[k] ys = true
  · simp [List.filter, e]
  · simp [List.filter, e]
theorem cntIn_le (xs ys : List Int) : cntIn xs ys ≤ xs.length := List.length_filter_le _ _

set_option maxHeartbeats 400000 in
theorem spec_l25Count (v u : Value) (xs ys : List Int) (w : World) (h : Sl intR w v xs) (h2 : Sl intR w u ys) :
    Calls Try.prog 69 #[v, u] w fun e w2 => e = .returned (.int .i64 (cntIn xs ys : Nat)) ∧ w = w2 := by
  obtain ⟨A, cap, rfl, hm⟩ := h.form
  obtain ⟨B, cap2, rfl, hm2⟩ := h2.form
  go_enter Try.func69, Try.ntmps69
  go_wp2
  go_loop [5, 6] (fun n i => ∃ k : Nat, k ≤ xs.length ∧ i = .int .i64 k ∧ n = .int .i64 (cntIn (xs.take k) ys : Nat)) (fun _ i => xs.length - (intOf i).toNat)
  case atStart => exact ⟨0, Nat.zero_le _, rfl, by simp [cntIn]⟩
  case round =>
    obtain ⟨k, hk, rfl, rfl⟩ := hrel
    by_cases hlt : k < xs.length
    · obtain ⟨b, off, rfl, hi, hc⟩ := h.int hlt
      have hst := cntIn_step xs ys k hlt
      have hle := cntIn_le (xs.take k) ys
      rw [List.length_take] at hle
      have HS := hid hst
      clear hst
      go_wp2_with fail
      refine (spec_l24Find _ ys xs[k] _ h2).mono ?_
      rintro e w2 ⟨rfl, rfl⟩
      have hn := idxI_nn xs[k] ys
      have hb := idxI_bd xs[k] ys
      generalize idxI xs[k] ys = L at hn hb ⊢
      by_cases h0 : 0 ≤ L
      · have HN := hid hn
        clear hn
        go_wp2
        go_round
        case rel => exact ⟨k + 1, by omega, by go_num, by rw [HS.out, if_pos (by rw [← HN.out]; simpa using h0)]; go_num⟩
        case measure => simp [intOf]; omega
      · have HN := hid hn
        clear hn
        go_wp2
        go_round
        case rel => exact ⟨k + 1, by omega, by go_num, by rw [HS.out, if_neg (by rw [← HN.out]; simpa using h0), Nat.add_zero]⟩
        case measure => simp [intOf]; omega
    · go_wp2
      go_ret
      exact ⟨ret_int (by rw [List.take_of_length_le (by omega)]), rfl⟩

def ovRow (b : List (List Int)) (x : List Int) : List Int := b.map fun y => min 100 (cntIn x y : Int)
def ovMat (a b : List (List Int)) : List (List Int) := if 8 < a.length ∨ 8 < b.length then [] else a.map (ovRow b)
theorem ovRow_len (b : List (List Int)) (x : List Int) : (ovRow b x).length = b.length := by simp [ovRow]
theorem ovRow_step (b : List (List Int)) (x : List Int) (k : Nat) (h : k < b.length) : ovRow (b.take (k + 1)) x = ovRow (b.take k) x ++ [min 100 (cntIn x b[k] : Int)] := by
  unfold ovRow; rw [List.take_succ_eq_append_getElem h, List.map_append]; rfl
end Go.Proofs.Ytfcbapaojoecgab

namespace Go.Proofs.Ytfcbapaojoecgab
open Go.RowKit

structure Change where
  kind : Int
  id : Int
  other : Int
def Change.cells (v : Change) : List Value := [.int .i64 v.kind, .int .i64 v.id, .int .i64 v.other]
def Change.val (v : Change) : Value := .agg #[.int .i64 v.kind, .int .i64 v.id, .int .i64 v.other]
def Change.ok (v : Change) : Prop := I64 v.kind ∧ I64 v.id ∧ I64 v.other
def changeR : Rep Change := ⟨3, fun _ cs v => cs = v.cells ∧ v.ok, fun h => by rw [h.1]; rfl, fun _ h => h⟩
def changeO : RepO Change := flatO changeR fun _ _ _ _ h => h
theorem Change.eta (x y : Change) : x = y ↔ x.kind = y.kind ∧ x.id = y.id ∧ x.other = y.other := by
  cases x; cases y; simp
theorem Sl.change {w : World} {A : Option Addr} {n cap : Nat} {xs : List Change} (h : Sl changeR w (.slice A n cap) xs) {i : Nat} (hi : i < xs.length) :
    ∃ b off, A = some ⟨b, off, none⟩ ∧ xs[i].ok ∧ w.cell? ⟨b, off + i * 3, none⟩ = some (.int .i64 xs[i].kind) ∧ w.cell? ⟨b, off + i * 3 + 1, none⟩ = some (.int .i64 xs[i].id) ∧ w.cell? ⟨b, off + i * 3 + 2, none⟩ = some (.int .i64 xs[i].other) := by
  obtain ⟨b, off, cs, rfl, ⟨rfl, hok⟩, hc⟩ := h.at_ hi
  exact ⟨b, off, rfl, hok, by simpa [changeR, Change.cells] using hc 0 (by simp [changeR]), by simpa [changeR, Change.cells] using hc 1 (by simp [changeR]), by simpa [changeR, Change.cells] using hc 2 (by simp [changeR])⟩
theorem OwnSl.change_set0 {w : World} {g off n cap : Nat} {xs : List Change} {F : List Nat} (h : OwnSl changeO w (.slice (some ⟨g, off, none⟩) n cap) xs F) (hN : F.Nodup) {i : Nat} (hi : i < xs.length) (u : Int) (hu : I64 u) :
    OwnSl changeO (w.setCell ⟨g, off + i * 3, none⟩ (.int .i64 u)) (.slice (some ⟨g, off, none⟩) n cap) (xs.set i { xs[i] with kind := u }) F ∧ w.cell? ⟨g, off + i * 3, none⟩ = some (.int .i64 xs[i].kind) ∧ w.frozen? ⟨g, off + i * 3, none⟩ = false ∧ g ∈ F := by
  obtain ⟨g', off', cap', c, F1, e, hg, _, _, _, ⟨⟨rfl, hok⟩, rfl⟩, _, hc, hf, _, hst⟩ := h.elem hN hi
  injection e with e1 e2 e3
  injection e1 with e1
  injection e1 with e1 e4 _
  subst e1; subst e4
  have h1 : changeO.n = 3 := rfl
  rw [h1] at hc hst
  refine ⟨?_, by have q := hc 0 (by omega); exact q, hf _, hg⟩
  exact hst 0 (.int .i64 u) { xs[i] with kind := u } (by omega) ⟨⟨rfl, ⟨hu, hok.2.1, hok.2.2⟩⟩, rfl⟩
theorem OwnSl.change_set1 {w : World} {g off n cap : Nat} {xs : List Change} {F : List Nat} (h : OwnSl changeO w (.slice (some ⟨g, off, none⟩) n cap) xs F) (hN : F.Nodup) {i : Nat} (hi : i < xs.length) (u : Int) (hu : I64 u) :
    OwnSl changeO (w.setCell ⟨g, off + i * 3 + 1, none⟩ (.int .i64 u)) (.slice (some ⟨g, off, none⟩) n cap) (xs.set i { xs[i] with id := u }) F ∧ w.cell? ⟨g, off + i * 3 + 1, none⟩ = some (.int .i64 xs[i].id) ∧ w.frozen? ⟨g, off + i * 3 + 1, none⟩ = false ∧ g ∈ F := by
  obtain ⟨g', off', cap', c, F1, e, hg, _, _, _, ⟨⟨rfl, hok⟩, rfl⟩, _, hc, hf, _, hst⟩ := h.elem hN hi
  injection e with e1 e2 e3
  injection e1 with e1
  injection e1 with e1 e4 _
  subst e1; subst e4
  have h1 : changeO.n = 3 := rfl
  rw [h1] at hc hst
  refine ⟨?_, by have q := hc 1 (by omega); exact q, hf _, hg⟩
  exact hst 1 (.int .i64 u) { xs[i] with id := u } (by omega) ⟨⟨rfl, ⟨hok.1, hu, hok.2.2⟩⟩, rfl⟩
theorem OwnSl.change_set2 {w : World} {g off n cap : Nat} {xs : List Change} {F : List Nat} (h : OwnSl changeO w (.slice (some ⟨g, off, none⟩) n cap) xs F) (hN : F.Nodup) {i : Nat} (hi : i < xs.length) (u : Int) (hu : I64 u) :
    OwnSl changeO (w.setCell ⟨g, off + i * 3 + 2, none⟩ (.int .i64 u)) (.slice (some ⟨g, off, none⟩) n cap) (xs.set i { xs[i] with other := u }) F ∧ w.cell? ⟨g, off + i * 3 + 2, none⟩ = some (.int .i64 xs[i].other) ∧ w.frozen? ⟨g, off + i * 3 + 2, none⟩ = false ∧ g ∈ F := by
  obtain ⟨g', off', cap', c, F1, e, hg, _, _, _, ⟨⟨rfl, hok⟩, rfl⟩, _, hc, hf, _, hst⟩ := h.elem hN hi
  injection e with e1 e2 e3
  injection e1 with e1
  injection e1 with e1 e4 _
  subst e1; subst e4
  have h1 : changeO.n = 3 := rfl
  rw [h1] at hc hst
  refine ⟨?_, by have q := hc 2 (by omega); exact q, hf _, hg⟩
  exact hst 2 (.int .i64 u) { xs[i] with other := u } (by omega) ⟨⟨rfl, ⟨hok.1, hok.2.1, hu⟩⟩, rfl⟩

def changeMk : Mk Change := ⟨fun _ => 3, fun k _ y => y = ⟨k, k + 1, k + 2⟩⟩
theorem changeMk_sum (xs : List Change) : changeMk.sum xs = 3 * xs.length := by
  unfold Mk.sum changeMk
  induction xs with
  | nil => rfl
  | cons x xs ih => simp only [List.map_cons, List.sum_cons, List.length_cons, ih]; omega
theorem cntChangeS_le (xs : List Change) : (lstMk changeMk).cnt xs ≤ 3 * xs.length := Nat.le_of_eq (changeMk_sum xs)

end Go.Proofs.Ytfcbapaojoecgab

namespace Go.Proofs.Ytfcbapaojoecgab
open Go.RowKit

def cmpB (a b : Bool) : Int := if a == b then 0 else if b then -1 else 1
/-- the first that is not 0 -/
def firstNZ : List Int → Int
  | [] => 0
  | x :: xs => if x ≠ 0 then x else firstNZ xs
def cmpV (x y : Verdict) : Int := firstNZ [cmpI x.a y.a, cmpI x.b y.b, cmpI x.time y.time, cmpB x.same y.same]

theorem cmpB_64 (a b : Bool) : I64 (cmpB a b) := by unfold I64 cmpB; split <;> (try split) <;> omega

set_option maxHeartbeats 400000 in
theorem cmp_isNaN (a : Int) (w : World) :
    Calls Try.prog 79 #[.int .i64 a] w fun e w2 => e = .returned (.bool false) ∧ w = w2 := by
  go_enter Try.func79, Try.ntmps79
  go_wp2
  all_goals go_ret
  all_goals (refine ⟨?_, rfl⟩; simp)

set_option maxHeartbeats 400000 in
theorem cmp_Compare (a b : Int) (w : World) :
    Calls Try.prog 48 #[.int .i64 a, .int .i64 b] w fun e w2 => e = .returned (.int .i64 (cmpI a b)) ∧ w2 = w := by
  go_enter Try.func48, Try.ntmps48
  go_wp2_with (go_at_call 79; refine (cmp_isNaN _ _).mono ?_; rintro e w2 ⟨rfl, rfl⟩)
  all_goals go_ret
  all_goals refine ⟨?_, rfl⟩
  all_goals (simp_all [cmpI]; try omega)

theorem firstNZ_append (l r : List Int) (h : ∀ x ∈ l, x = 0) : firstNZ (l ++ r) = firstNZ r := by
  induction l with
  | nil => rfl
  | cons x l ih => simp [firstNZ, h x (List.mem_cons_self ..), ih (fun y hy => h y (List.mem_cons_of_mem _ hy))]

theorem firstNZ_at (xs : List Int) (k : Nat) (hlt : k < xs.length) (hz : ∀ x ∈ xs.take k, x = 0) (h0 : ¬ xs[k] = 0) : firstNZ xs = xs[k] := by
  have e : xs = xs.take k ++ (xs[k] :: xs.drop (k + 1)) := by simp
  have e2 : firstNZ (xs.take k ++ (xs[k] :: xs.drop (k + 1))) = xs[k] := by
    rw [firstNZ_append _ _ hz]; simp [firstNZ, h0]
  rw [← e] at e2; exact e2
theorem firstNZ_all (xs : List Int) (k : Nat) (hk : ¬ k < xs.length) (hz : ∀ x ∈ xs.take k, x = 0) : firstNZ xs = 0 := by
  rw [List.take_of_length_le (by omega)] at hz
  have := firstNZ_append xs [] hz
  rw [List.append_nil] at this
  exact this

end Go.Proofs.Ytfcbapaojoecgab

namespace Go.Proofs.Ytfcbapaojoecgab
open Go.RowKit

set_option maxHeartbeats 400000 in
theorem EqualFunc_ent (v u : Value) (xs ys : List Entity) (fn : FuncId) (cp : Array Value) (w : World) (h : Sl entityR w v xs) (k : Sl entityR w u ys)
    (hfn : ∀ (args : Array Value) (W : World), Sem.run Try.prog (callFunc fn args) W = .ok (.enter fn args) W)
    (hf : ∀ wz a b x y, EntAt wz a x → EntAt wz b y → Calls Try.prog fn (#[a, b] ++ cp) wz fun e w2 => e = .returned (.bool (eqB x y)) ∧ Ext wz w2) :
    Calls Try.prog 57 #[v, u, .func (.func fn) #[] cp] w fun e w2 => e = .returned (.bool (eqB xs ys)) ∧ Ext w w2 := by
  obtain ⟨A, cap, rfl, hm⟩ := h.form
  obtain ⟨B, cap2, rfl, hm2⟩ := k.form
  by_cases hl : xs.length = ys.length
  · have hl' : ((xs.length : Int) != (ys.length : Int)) = false := by simp [hl]
    have HL := hid hl
    clear hl
    go_enter Try.func57, Try.ntmps57
    go_wp2
    go_loopw [17] (fun i wr => ∃ k2 : Nat, k2 ≤ xs.length ∧ i = .int .i64 k2 ∧ xs.take k2 = ys.take k2 ∧ Ext w wr) (fun i _ => xs.length - (intOf i).toNat)
    case atStart => exact ⟨0, Nat.zero_le _, rfl, by simp, Ext.refl _⟩
    case round =>
      obtain ⟨k2, hk, rfl, he, hx⟩ := hrel
      have HE := hid he
      clear he
      by_cases hlt : k2 < xs.length
      · have hlt2 : k2 < ys.length := by have := HL.out; omega
        obtain ⟨b, off, A2, cap3, rfl, hI, hi, hc, hd⟩ := (h.mono hx).ent hlt
        obtain ⟨b2, off2, A3, cap4, rfl, hI2, hi2, hc2, hd2⟩ := (k.mono hx).ent hlt2
        have hc3 : (wr.alloc (.cells #[.int .i64 xs[k2].id, .slice A2 xs[k2].members.length cap3] 42)).cell? ⟨b2, off2 + k2 * 2, none⟩ = _ := ((Ext.refl _).alloc _).cell hc2
        have hd3 : (wr.alloc (.cells #[.int .i64 xs[k2].id, .slice A2 xs[k2].members.length cap3] 42)).cell? ⟨b2, off2 + k2 * 2 + 1, none⟩ = _ := ((Ext.refl _).alloc _).cell hd2
        go_wp2_with fail
        refine (hf _ _ _ xs[k2] ys[k2] ⟨_, rfl, hI, hi.mono (by repeat (first | with_reducible exact Ext.refl _ | with_reducible assumption | with_reducible refine Ext.drew ?_ | with_reducible refine Ext.alloc ?_ _ | (refine Ext.setCell ?_ (by simp) _) | with_reducible refine Ext.trans ?_ (by with_reducible assumption)))⟩ ⟨_, rfl, hI2, hi2.mono (by repeat (first | with_reducible exact Ext.refl _ | with_reducible assumption | with_reducible refine Ext.drew ?_ | with_reducible refine Ext.alloc ?_ _ | (refine Ext.setCell ?_ (by simp) _) | with_reducible refine Ext.trans ?_ (by with_reducible assumption)))⟩).mono ?_
        rintro e w2 ⟨rfl, x2⟩
        by_cases h0 : xs[k2] = ys[k2]
        · rw [eqB_true h0]
          have H0 := hid h0
          clear h0
          go_wp2
          go_roundw
          case rel => exact ⟨k2 + 1, by omega, by go_num, take_snoc_eq hlt hlt2 H0.out HE.out, (by repeat (first | with_reducible exact Ext.refl _ | with_reducible assumption | with_reducible refine Ext.drew ?_ | with_reducible refine Ext.alloc ?_ _ | with_reducible refine Ext.trans ?_ (by with_reducible assumption)))⟩
          case measure => simp [intOf]; omega
        · rw [eqB_false h0]
          have H0 := hid h0
          clear h0
          go_wp2
          go_ret
          exact ⟨ret_bool (eqB_false (ne_of_at hlt hlt2 H0.out)).symm, (by repeat (first | with_reducible exact Ext.refl _ | with_reducible assumption | with_reducible refine Ext.drew ?_ | with_reducible refine Ext.alloc ?_ _ | with_reducible refine Ext.trans ?_ (by with_reducible assumption)))⟩
      · go_wp2
        go_ret
        exact ⟨ret_bool (eqB_true (eq_of_take hlt HL.out HE.out)).symm, hx⟩
  · have hl' : ((xs.length : Int) != (ys.length : Int)) = true := by simp; omega
    go_enter Try.func57, Try.ntmps57
    go_wp2
    go_ret
    exact ⟨ret_bool (eqB_false fun e => hl (by rw [e])).symm, Ext.refl _⟩

set_option maxHeartbeats 400000 in
theorem impl_EqualEntities_1 (v u : Value) (x y : Entity) (w : World) (h : EntAt w v x) (k : EntAt w u y) :
    Calls Try.prog 58 #[v, u] w fun e w2 => e = .returned (.bool (eqB x y)) ∧ Ext w w2 := by
  obtain ⟨f, rfl, hok, hs⟩ := h
  obtain ⟨g, rfl, hok2, hs2⟩ := k
  by_cases h1 : x.id = y.id
  · have b1 : (x.id == y.id) = true := by simp [h1]
    have H := hid h1
    clear h1
    go_enter Try.func58, Try.ntmps58
    go_wp2_with fail
    refine (slices_Equal _ _ x.members y.members _ (hs.mono (by repeat (first | with_reducible exact Ext.refl _ | with_reducible assumption | with_reducible refine Ext.drew ?_ | with_reducible refine Ext.alloc ?_ _ | with_reducible refine Ext.trans ?_ (by with_reducible assumption)))) (hs2.mono (by repeat (first | with_reducible exact Ext.refl _ | with_reducible assumption | with_reducible refine Ext.drew ?_ | with_reducible refine Ext.alloc ?_ _ | with_reducible refine Ext.trans ?_ (by with_reducible assumption))))).mono ?_
    rintro e w2 ⟨rfl, x2⟩
    by_cases h4 : x.members = y.members
    · rw [eqB_true h4]
      have H4 := hid h4
      clear h4
      go_wp2
      go_ret
      exact ⟨ret_bool (eqB_true ((Entity.ext_iff2 x y).2 ⟨H.out, H4.out⟩)).symm, (by repeat (first | with_reducible exact Ext.refl _ | with_reducible assumption | with_reducible refine Ext.drew ?_ | with_reducible refine Ext.alloc ?_ _ | with_reducible refine Ext.trans ?_ (by with_reducible assumption)))⟩
    · rw [eqB_false h4]
      have H4 := hid h4
      clear h4
      go_wp2
      go_ret
      exact ⟨ret_bool (eqB_false fun e => H4.out (by rw [e])).symm, (by repeat (first | with_reducible exact Ext.refl _ | with_reducible assumption | with_reducible refine Ext.drew ?_ | with_reducible refine Ext.alloc ?_ _ | with_reducible refine Ext.trans ?_ (by with_reducible assumption)))⟩
  · have b1 : (x.id == y.id) = false := by simp [h1]
    have H := hid h1
    clear h1
    go_enter Try.func58, Try.ntmps58
    go_wp2
    go_ret
    exact ⟨ret_bool (eqB_false fun e => H.out (by rw [e])).symm, (by repeat (first | with_reducible exact Ext.refl _ | with_reducible assumption | with_reducible refine Ext.drew ?_ | with_reducible refine Ext.alloc ?_ _ | with_reducible refine Ext.trans ?_ (by with_reducible assumption)))⟩

set_option maxHeartbeats 400000 in
theorem impl_EqualEntities (v u : Value) (xs ys : List Entity) (w : World) (h : Sl entityR w v xs) (k : Sl entityR w u ys) :
    Calls Try.prog 19 #[v, u] w fun e w2 => e = .returned (.bool (eqB xs ys)) ∧ Ext w w2 := by
  go_enter Try.func19, Try.ntmps19
  go_wp2_with fail
  refine (EqualFunc_ent _ _ xs ys 58 #[] w h k (fun _ _ => by kernel_rfl) (fun wz a b x y hx hy => impl_EqualEntities_1 a b x y wz hx hy)).mono ?_
  rintro e w2 ⟨rfl, x2⟩
  go_wp2
  go_ret
  exact ⟨rfl, x2⟩

end Go.Proofs.Ytfcbapaojoecgab

namespace Go.Proofs.Ytfcbapaojoecgab
open Go.RowKit

/-- elements known by their cells: p -/
def atP {α : Type} (R : Rep α) (p : List Value → α → Prop) : RepO α :=
  { n := R.n
    rd := fun _ cs x => p cs x ∧ cs.length = R.n
    len := fun h => h.2
    mono := fun _ h => h
    own := fun _ cs x F => (p cs x ∧ cs.length = R.n) ∧ F = []
    own_rd := fun h => h.1
    own_lt := fun h b hb => by rw [h.2] at hb; cases hb
    own_keep := fun _ h => h }
theorem Sl.of_atP {α : Type} {R : Rep α} {p : List Value → α → Prop} {w : World} {v : Value} {xs : List α} (h : Sl (atP R p).toRep w v xs) (e : ∀ cs x, p cs x → R.rd w cs x) : Sl R w v xs := by
  obtain ⟨A, cap, rfl, hm, hi⟩ := h
  refine ⟨A, cap, rfl, hm, fun i h => ?_⟩
  obtain ⟨b, off, cs, rfl, hr, hc⟩ := hi i h
  exact ⟨b, off, cs, rfl, e _ _ hr.1, hc⟩
theorem OwnCells.toP {α : Type} {R : Rep α} {p : List Value → α → Prop} {w0 w w2 : World} (hp : ∀ cs x, R.rd w0 cs x → p cs x) : ∀ {xs : List α} {cs : List Value} {F : List Nat}, OwnCells (atO R w0) w cs xs F → OwnCells (atP R p) w2 cs xs F
  | [], _, _, h => h
  | _ :: _, _, _, ⟨c, d, F1, F2, h1, h2, h3, h4⟩ => ⟨c, d, F1, F2, h1, h2, ⟨⟨hp _ _ h3.1, R.len h3.1⟩, h3.2⟩, OwnCells.toP hp h4⟩
theorem OwnCells.pMono {α : Type} {R : Rep α} {p q : List Value → α → Prop} {w w2 : World} (hp : ∀ cs x, p cs x → q cs x) : ∀ {xs : List α} {cs : List Value} {F : List Nat}, OwnCells (atP R p) w cs xs F → OwnCells (atP R q) w2 cs xs F
  | [], _, _, h => h
  | _ :: _, _, _, ⟨c, d, F1, F2, h1, h2, h3, h4⟩ => ⟨c, d, F1, F2, h1, h2, ⟨⟨hp _ _ h3.1.1, h3.1.2⟩, h3.2⟩, OwnCells.pMono hp h4⟩
theorem Bld.moveP {α : Type} {R : Rep α} {p q : List Value → α → Prop} {w w2 : World} {base : Nat} {e : TypeId} {v : Value} {xs : List α} (h : Bld (atP R p) w base e v xs []) (hk : ∀ b, v.ownBlock = some b → w2.heap[b]? = w.heap[b]?) (hp : ∀ cs x, p cs x → q cs x) : Bld (atP R q) w2 base e v xs [] := by
  obtain ⟨cs, h1, h2, h3, h4, h5⟩ := h
  refine ⟨cs, ⟨h1.1, ?_⟩, h2.pMono hp, h3, h4, h5⟩
  rcases h1.2 with h | ⟨g', cap, cur, rfl, hb, hh, hr⟩
  · exact .inl h
  · exact .inr ⟨g', cap, cur, rfl, hb, (hk g' rfl).trans hh, hr⟩
theorem Bld.empP {α : Type} {R : RepO α} {W : World} {base g : Nat} {e : TypeId} (hb : base ≤ g) (h : W.heap[g]? = some (.cells #[] e (0, 0))) : Bld R W base e (.slice (some ⟨g, 0, none⟩) 0 0) ([] : List α) [] :=
  ⟨[], ⟨by simp, .inr ⟨g, 0, #[], rfl, hb, h, Nat.le_refl _, Nat.zero_le _, by simp, by simp⟩⟩, .nil, fun _ _ h => (by cases h), List.nodup_nil, fun _ h => by cases h⟩
/-- what is known of the memory behind an append -/
structure Aft (w w' : World) (v v' : Value) : Prop where
  keep : ∀ b, b < w.heap.size → v.ownBlock ≠ some b → w'.heap[b]? = w.heap[b]?
  size : w.heap.size ≤ w'.heap.size
  own : ∀ b, v'.ownBlock = some b → v.ownBlock = some b ∨ w.heap.size ≤ b
/-- an append of a slice's cells -/
theorem step_appP {P : Program} {α : Type} {R : Rep α} {p : List Value → α → Prop} {ops : Array Oper} {o : Oper} {a : Act} {w : World} {K : Act → World → Prop} {Q : Exit → Act → World → Prop} {Z : Prop} {t e : TypeId} {bytes : Nat} (hsz : 0 < R.n) (E : ElemT P t e R.n bytes) (hby : bytes ≤ 128)
    (hgd : o.guard = none) (s x : Operand) (ho : o.op = .call { callee := .builtin .append, args := #[s, x], argTypes := #[t, t] })
    {base : Nat} {v : Value} {xs ys : List α} (hb : Bld (atP R p) w base e v xs []) (hs : a.eval s = v) {A : Option Addr} {n k : Nat} (hx : a.eval x = .slice A n k) {news : List Value} (hnews : OwnCells (atP R p) w news ys []) (hn : n = ys.length)
    (hc : 0 < n → ∃ ad, A = some ad ∧ ∀ j u, news[j]? = some u → w.cell? (ad.add j) = some u) (h1 : ∀ u ∈ news, u.oneCell' = true)
    (hbytes : xs.length + n ≤ 1099511627776) (hbase : base ≤ w.heap.size) {w0 : World} (h0 : w0.heap.size ≤ base) (hx0 : Ext w0 w)
    (h : ∀ v' w', Bld (atP R p) w' base e v' (xs ++ ys) [] → Ext w0 w' → Aft w w' v v' → K (a.put o.dst v') w') :
    if Region.wanted o (yielded ops a.tmps) = true then Oper.wp P o a w K Q else Z := by
  have hw : Region.wanted o (yielded ops a.tmps) = true := by simp [Region.wanted, hgd]
  rw [if_pos hw]
  obtain ⟨ht, i, z, hi, hz, hsize, hby2, hzs⟩ := E
  have hlb := hb.lt
  have hl : news.length = n * R.n := by rw [hn]; exact hnews.length
  obtain ⟨cs, b1, b2, b3, b4, b5⟩ := hb
  by_cases hm : 0 < n
  · obtain ⟨ad, rfl, hcc⟩ := hc hm
    refine wp_append_lies w s x t ho base e i z R.n bytes ht hi hz hsize hby2 hzs hsz v xs.length cs hs b1 ad n k news hx hl hcc h1 hm (by unfold maxLen; omega)
      (Nat.le_trans (Nat.mul_le_mul (show xs.length + n ≤ 1099511627776 by omega) hby) (by decide)) hbase w.heap.size rfl ?_
    intro g' cap w' hown hgr hat _
    refine h _ _ ⟨cs ++ news, by rw [List.length_append, ← hn]; exact hown, ?_, fun _ _ hm => (by cases hm), List.nodup_nil, fun _ hm => by cases hm⟩ (hx0.grown hgr fun g hg => Nat.le_trans h0 (hlb.2 g hg).2) ⟨fun b hb2 hne => hgr.block b hb2 (fun e => hne e.symm), hgr.size, fun b hb => ?_⟩
    · have := OwnCells.append (b2.keep (w2 := w') fun b hb => by cases hb) (hnews.keep (w2 := w') fun b hb => by cases hb)
      simpa using this
    · injection hb with hb
      subst hb
      rcases hat with hat | hat
      · exact .inl hat
      · exact .inr (by rw [hat]; exact Nat.le_refl _)
  · have hn0 : n = 0 := by omega
    subst hn0
    have hys : ys = [] := List.eq_nil_of_length_eq_zero hn.symm
    subst hys
    have hr : (Builtin.append_ #[t, t] o.type #[v, .slice A 0 k]).run P w = .ok v w := by
      rcases b1.2 with ⟨rfl, _⟩ | ⟨g, cap, cur, rfl, _, _, hnc, _⟩
      · cases A <;> simp [Builtin.append_, run_underlying ht, sizeOf, typeInfo, hi, Builtin.lenOf, Builtin.firstCells, storeCells, loadCells, loadCellsFrom]
      · cases A <;> simp [Builtin.append_, run_underlying ht, sizeOf, typeInfo, hi, Builtin.lenOf, Builtin.firstCells, hnc, storeCells, loadCells, loadCellsFrom]
    unfold Oper.wp execOp
    simp only [ho, resolve, invoke, builtin, Sem.run_bind, Sem.run_pure, Result.andThen_ok, List.map_toArray, List.map_cons, List.map_nil, hs, hx, hr]
    exact h v w ⟨cs, by rw [List.append_nil]; exact b1, by rw [List.append_nil]; exact b2, b3, b4, b5⟩ hx0 ⟨fun _ _ _ => rfl, Nat.le_refl _, fun _ hb => .inl hb⟩
/-- of a slice that reads in w1 -/
theorem step_appPS {P : Program} {α : Type} {R : Rep α} {p : List Value → α → Prop} {ops : Array Oper} {o : Oper} {a : Act} {w : World} {K : Act → World → Prop} {Q : Exit → Act → World → Prop} {Z : Prop} {t e : TypeId} {bytes : Nat} (hsz : 0 < R.n) (E : ElemT P t e R.n bytes) (hby : bytes ≤ 128)
    (hone : ∀ (w : World) cs x, R.rd w cs x → ∀ u ∈ cs, u.oneCell' = true)
    (hgd : o.guard = none) (s x : Operand) (ho : o.op = .call { callee := .builtin .append, args := #[s, x], argTypes := #[t, t] })
    {base : Nat} {v : Value} {xs ys : List α} (hb : Bld (atP R p) w base e v xs []) (hs : a.eval s = v) {A : Option Addr} {n k : Nat} (hx : a.eval x = .slice A n k) {w1 : World} (hy : Sl R w1 (.slice A n k) ys) (hxw : Ext w1 w) (hp : ∀ cs x, R.rd w1 cs x → p cs x)
    (hbytes : xs.length + n ≤ 1099511627776) (hbase : base ≤ w.heap.size) {w0 : World} (h0 : w0.heap.size ≤ base) (hx0 : Ext w0 w)
    (h : ∀ v' w', Bld (atP R p) w' base e v' (xs ++ ys) [] → Ext w0 w' → Aft w w' v v' → K (a.put o.dst v') w') :
    if Region.wanted o (yielded ops a.tmps) = true then Oper.wp P o a w K Q else Z := by
  obtain ⟨news, k1, k2, k3⟩ := hy.cells_
  have one : ∀ {xs : List α} {cs : List Value} {F : List Nat}, OwnCells (atO R w1) w1 cs xs F → ∀ u ∈ cs, u.oneCell' = true := by
    intro xs
    induction xs with
    | nil => intro cs F h u hu; rw [h.1] at hu; cases hu
    | cons x xs ih =>
      rintro cs F ⟨c, d, F1, F2, rfl, _, ⟨h2, _⟩, h4⟩ u hu
      rcases List.mem_append.1 hu with hu | hu
      · exact hone w1 c x h2 u hu
      · exact ih h4 u hu
  exact step_appP hsz E hby hgd s x ho hb hs hx (k1.toP hp) hy.cap_.1 (fun hp => by
    obtain ⟨ad, e1, e2⟩ := k3 hp
    exact ⟨ad, e1, fun j u hu => e2 w hxw j u hu⟩) (one k1) hbytes hbase h0 hx0 h
/-- of one element, laid in a block -/
theorem step_appP1 {P : Program} {α : Type} {R : Rep α} {p : List Value → α → Prop} {ops : Array Oper} {o : Oper} {a : Act} {w : World} {K : Act → World → Prop} {Q : Exit → Act → World → Prop} {Z : Prop} {t e : TypeId} {bytes : Nat} (hsz : 0 < R.n) (E : ElemT P t e R.n bytes) (hby : bytes ≤ 128)
    (hgd : o.guard = none) (s x : Operand) (ho : o.op = .call { callee := .builtin .append, args := #[s, x], argTypes := #[t, t] })
    {base : Nat} {v : Value} {xs : List α} (hb : Bld (atP R p) w base e v xs []) (hs : a.eval s = v) {c : Array Value} {T : TypeId} {fr : Nat × Nat} (g k : Nat) (hx : a.eval x = .slice (some ⟨g, 0, none⟩) 1 k) (hg : w.heap[g]? = some (.cells c T fr))
    (h1 : ∀ u ∈ c.toList, u.oneCell' = true) {y : α} (hy : p c.toList y) (hyn : c.toList.length = R.n)
    (hbytes : xs.length + 1 ≤ 1099511627776) (hbase : base ≤ w.heap.size) {w0 : World} (h0 : w0.heap.size ≤ base) (hx0 : Ext w0 w)
    (h : ∀ v' w', Bld (atP R p) w' base e v' (xs ++ [y]) [] → Ext w0 w' → Aft w w' v v' → K (a.put o.dst v') w') :
    if Region.wanted o (yielded ops a.tmps) = true then Oper.wp P o a w K Q else Z :=
  step_appP hsz E hby hgd s x ho hb hs hx (news := c.toList) (ys := [y]) (OwnCells.one (R := atP R p) ⟨⟨hy, hyn⟩, rfl⟩) rfl (fun _ => ⟨_, rfl, World.news_of_block hg⟩) h1 hbytes hbase h0 hx0 h
theorem heap_new {w : World} {g : Nat} {c : Array Value} {e : TypeId} (h : g = w.heap.size) : (w.alloc (.cells c e)).heap[g]? = some (.cells c e (0, 0)) := by
  subst h; exact heap_alloc_new w _
theorem heap_old {w : World} {g : Nat} {o : Obj} {r : Option Obj} (h : g < w.heap.size) (k : w.heap[g]? = r) : (w.alloc o).heap[g]? = r :=
  (((Ext.refl w).alloc o).block h).trans k
theorem heap_drew {w : World} {g : Nat} {r : Option Obj} (h : w.heap[g]? = r) : w.drew.heap[g]? = r := h
theorem own_ne {g b : Nat} (h : g ≠ b) : (Value.slice (some ⟨g, 0, none⟩) 0 0).ownBlock ≠ some b := fun e => by
  injection e with e
  exact h e
theorem Aft.own0 {w w' : World} {g n k : Nat} {v' : Value} (h : Aft w w' (.slice (some ⟨g, 0, none⟩) n k) v') : ∀ b, v'.ownBlock = some b → g = b ∨ w.heap.size ≤ b := fun b hb => by
  rcases h.own b hb with e | e
  · injection e with e
    exact .inl e
  · exact .inr e
/-- 's[k:]' -/
theorem Sl.tail1 {α : Type} {R : Rep α} (hR : R.n = 1) {w : World} {b off n cap : Nat} {xs : List α} (h : Sl R w (.slice (some ⟨b, off, none⟩) n cap) xs) (k : Nat) (hk : k ≤ xs.length) :
    ∃ A2 : Option Addr, (if cap = k then (some ⟨b, off, none⟩ : Option Addr) else some ⟨b, off + k, none⟩) = A2 ∧ Hid (Sl R w (.slice A2 (xs.length - k) (cap - k)) (xs.drop k)) := by
  have hn := h.cap_
  by_cases hc : cap = k
  · refine ⟨_, rfl, ?_⟩
    rw [if_pos hc, show xs.drop k = [] from List.drop_of_length_le (by omega), show xs.length - k = 0 by omega]
    exact ⟨_, _, rfl, ⟨Nat.zero_le _, by unfold maxLen; omega⟩, fun i hi => absurd hi (Nat.not_lt_zero _)⟩
  · refine ⟨_, rfl, ?_⟩
    rw [if_neg hc]
    obtain ⟨A, cap', he, hm, hi⟩ := h
    injection he with e1 e2 e3
    subst e1; subst e2; subst e3
    refine ⟨_, _, by rw [List.length_drop], ⟨by rw [List.length_drop]; omega, by omega⟩, fun i hlt => ?_⟩
    rw [List.length_drop] at hlt
    obtain ⟨b2, off2, cs, e, hr, hc2⟩ := hi (k + i) (by omega)
    injection e with e
    injection e with e4 e5 _
    subst e4; subst e5
    refine ⟨b, off + k, cs, rfl, by rw [List.getElem_drop]; exact hr, fun j hj => ?_⟩
    rw [← hc2 j hj, hR, show off + k + i * 1 + j = off + (k + i) * 1 + j by omega]
end Go.Proofs.Ytfcbapaojoecgab

namespace Go.Proofs.Ytfcbapaojoecgab
open Go.RowKit

/-- one row's columns from k on -/
def bvRow (next : Nat → Int) (t : Nat) : Nat → List Int → Int → Int
  | _, [], acc => acc
  | k, x :: xs, acc => bvRow next t (k + 1) xs (if 0 < x ∧ t.testBit k = false then max acc (x + next (t ||| 1 <<< k)) else acc)
def bv : List (List Int) → Nat → Int
  | [], _ => 0
  | r :: rs, t => bvRow (bv rs) t 0 r (bv rs t)

theorem bvRow_bd {next : Nat → Int} {B : Int} (hn : ∀ t, 0 ≤ next t ∧ next t ≤ B) (t : Nat) : ∀ (xs : List Int) (k : Nat) (acc : Int), (∀ x ∈ xs, 0 ≤ x ∧ x ≤ 100) → 0 ≤ acc → acc ≤ B + 100 →
    0 ≤ bvRow next t k xs acc ∧ bvRow next t k xs acc ≤ B + 100
  | [], k, acc, _, h1, h2 => ⟨h1, h2⟩
  | x :: xs, k, acc, hx, h1, h2 => by
    have hx0 := hx x (List.mem_cons_self ..)
    have hnt := hn (t ||| 1 <<< k)
    unfold bvRow
    refine bvRow_bd hn t xs (k + 1) _ (fun y hy => hx y (List.mem_cons_of_mem _ hy)) ?_ ?_
    · split <;> omega
    · split <;> omega
theorem bv_bd : ∀ (m : List (List Int)) (t : Nat), (∀ r ∈ m, ∀ x ∈ r, 0 ≤ x ∧ x ≤ 100) → 0 ≤ bv m t ∧ bv m t ≤ 100 * m.length
  | [], t, _ => by simp [bv]
  | r :: rs, t, h => by
    have ih : ∀ t, 0 ≤ bv rs t ∧ bv rs t ≤ 100 * rs.length := fun t => bv_bd rs t fun r' hr => h r' (List.mem_cons_of_mem _ hr)
    have h0 := ih t
    have := bvRow_bd ih t r 0 (bv rs t) (h r (List.mem_cons_self ..)) h0.1 (by omega)
    unfold bv
    simp only [List.length_cons]
    omega
theorem bvRow_snoc (next : Nat → Int) (t : Nat) : ∀ (xs : List Int) (k : Nat) (acc : Int) (x : Int), bvRow next t k (xs ++ [x]) acc =
    (if 0 < x ∧ t.testBit (k + xs.length) = false then max (bvRow next t k xs acc) (x + next (t ||| 1 <<< (k + xs.length))) else bvRow next t k xs acc)
  | [], k, acc, x => by simp [bvRow]
  | y :: ys, k, acc, x => by
    simp only [List.cons_append, bvRow, List.length_cons]
    rw [bvRow_snoc next t ys (k + 1) _ x, show k + 1 + ys.length = k + (ys.length + 1) by omega]

theorem bv_step (m : List (List Int)) (k : Nat) (h : k < m.length) (t : Nat) : bv (m.drop k) t = bvRow (bv (m.drop (k + 1))) t 0 m[k] (bv (m.drop (k + 1)) t) := by
  rw [List.drop_eq_getElem_cons h, bv]
theorem bv_end (m : List (List Int)) (t : Nat) : bv (m.drop m.length) t = 0 := by rw [List.drop_length, bv]

theorem okMat_mem {m : List (List Int)} (h : okMat m = true) {r : List Int} (hr : r ∈ m) : ∀ x ∈ r, 0 ≤ x ∧ x ≤ 100 := by
  obtain ⟨i, hi, rfl⟩ := List.getElem_of_mem hr
  exact (okMat_at h hi).2.2
/-- a table of n rows of N ints -/
def tab (n N : Nat) (f : Nat → Nat → Int) : List (List Int) := (List.range n).map fun j => (List.range N).map (f j)
def upd (f : Nat → Nat → Int) (i s : Nat) (x : Int) : Nat → Nat → Int := fun j t => if j = i ∧ t = s then x else f j t
theorem upd_same (f : Nat → Nat → Int) (i s : Nat) (x : Int) : upd f i s x i s = x := by simp [upd]
theorem upd_other (f : Nat → Nat → Int) {i s j t : Nat} (x : Int) (h : ¬ (j = i ∧ t = s)) : upd f i s x j t = f j t := by simp only [upd]; rw [if_neg h]
theorem tab_len (n N : Nat) (f : Nat → Nat → Int) : (tab n N f).length = n := by simp [tab]
theorem tab_row {n N : Nat} {f : Nat → Nat → Int} {i : Nat} (h : i < (tab n N f).length) : (tab n N f)[i] = (List.range N).map (f i) := by simp [tab]
theorem tab_set {n N : Nat} {f : Nat → Nat → Int} {i s : Nat} (h : i < (tab n N f).length) (x : Int) : (tab n N f).set i ((tab n N f)[i].set s x) = tab n N (upd f i s x) := by
  rw [tab_row h]
  have hl : (((tab n N f).set i (((List.range N).map (f i)).set s x))).length = (tab n N (upd f i s x)).length := by rw [List.length_set, tab_len, tab_len]
  refine List.ext_getElem hl fun j h1 h2 => ?_
  rw [tab_row h2, List.getElem_set]
  by_cases e : i = j
  · subst e
    rw [if_pos rfl]
    refine List.ext_getElem (by simp) fun t h3 h4 => ?_
    rw [List.getElem_set]
    by_cases e : s = t
    · subst e; simp [upd]
    · rw [if_neg e]
      simp only [List.getElem_map, List.getElem_range]
      rw [upd_other f x (fun h => e h.2.symm)]
  · rw [if_neg e, tab_row (by simpa using h1)]
    refine List.map_congr_left fun t _ => ?_
    rw [upd_other f x (fun h => e h.1.symm)]
theorem tab_zero (n N : Nat) : List.replicate n (List.replicate N (0 : Int)) = tab n N fun _ _ => 0 := by
  refine List.ext_getElem (by simp [tab]) fun j h1 h2 => ?_
  rw [tab_row h2, List.getElem_replicate]
  refine List.ext_getElem (by simp) fun t h3 h4 => ?_
  simp
/-- a cell of the table, and what stands behind a store -/
theorem tab_at {w : World} {g off n N cap : Nat} {f : Nat → Nat → Int} {F : List Nat} (h : OwnSl (slO intO) w (.slice (some ⟨g, off, none⟩) n cap) (tab n N f) F) (hN : F.Nodup) {i s : Nat} (hi : i < n) (hs : s < N) :
    ∃ b o2 cap2, w.cell? ⟨g, off + i, none⟩ = some (.slice (some ⟨b, o2, none⟩) N cap2) ∧ b ∈ F ∧ g ≠ b ∧ w.cell? ⟨b, o2 + s, none⟩ = some (.int .i64 (f i s)) ∧ w.frozen? ⟨b, o2 + s, none⟩ = false ∧
      ∀ x, I64 x → OwnSl (slO intO) (w.setCell ⟨b, o2 + s, none⟩ (.int .i64 x)) (.slice (some ⟨g, off, none⟩) n cap) (tab n N (upd f i s x)) F := by
  have hi2 : i < (tab n N f).length := by rw [tab_len]; exact hi
  have hs2 : s < (tab n N f)[i].length := by rw [tab_row]; simpa using hs
  obtain ⟨g', off', cap', b, o2, cap2, e, h1, h2, h3, h4, h5, h6⟩ := h.ints_store hN hi2 hs2
  injection e with e1 e2 e3
  injection e1 with e1
  injection e1 with e4 e5
  subst e4; subst e5; subst e3
  refine ⟨b, o2, cap2, ?_, h2, h3, ?_, h5, fun x hx => ?_⟩
  · rw [h1, tab_row]; simp
  · rw [h4]; simp [tab_row]
  · have := h6 x hx
    rwa [tab_set] at this
end Go.Proofs.Ytfcbapaojoecgab

namespace Go.Proofs.Ytfcbapaojoecgab
open Go.RowKit

def mems (xs : List Entity) : List (List Int) := xs.map Entity.members
theorem mems_step (xs : List Entity) (k : Nat) (h : k < xs.length) : mems (xs.take (k + 1)) = mems (xs.take k) ++ [xs[k].members] := by
  unfold mems; rw [List.take_succ_eq_append_getElem h, List.map_append]; rfl
theorem mems_len (xs : List Entity) : (mems xs).length = xs.length := by simp [mems]

set_option maxHeartbeats 400000 in
set_option maxRecDepth 20000 in
theorem impl_membersOf (v : Value) (xs : List Entity) (w : World) (h : Sl entityR w v xs) (hb : xs.length ≤ 1099511627775) :
    Calls Try.prog 44 #[v] w fun e w2 => ∃ v2, e = .returned v2 ∧ Sl (slR intR) w2 v2 (mems xs) ∧ Ext w w2 := by
  obtain ⟨A, cap, rfl, hm⟩ := h.form
  go_enter Try.func44, Try.ntmps44
  go_wp2
  go_loopw [3, 8] (fun t i wr => ∃ k : Nat, k ≤ xs.length ∧ i = .int .i64 k ∧ Bld (atO (slR intR) w) wr w.heap.size 40 t (mems (xs.take k)) [] ∧ Ext w wr) (fun _ i _ => xs.length - (intOf i).toNat)
  case atStart => exact ⟨0, Nat.zero_le _, rfl, Bld.nil w _ _, Ext.refl _⟩
  case round =>
    obtain ⟨k, hk, rfl, hB, hx⟩ := hrel
    by_cases hlt : k < xs.length
    · obtain ⟨b, off, A2, cap2, rfl, hI, hsl, hc0, hc1⟩ := h.ent hlt
      have hd0 := hx.cell hc0
      have hd1 := hx.cell hc1
      have hlm : (mems (xs.take k)).length = k := by rw [mems_len, List.length_take]; omega
      have HLM := hid hlm
      have HST := hid (mems_step xs k hlt)
      clear hlm
      go_wp2_with (at_builtin; refine wpList_app1 (R := atO (slR intR) w) elemInts Nat.zero_lt_one rfl _ _ rfl (hB.ext (by repeat (first | with_reducible exact Ext.refl _ | with_reducible assumption | with_reducible refine Ext.drew ?_ | with_reducible refine Ext.alloc ?_ _ | (refine Ext.setCell ?_ (by simp) _) | with_reducible refine Ext.trans ?_ (by with_reducible assumption)))) rfl _ 1 rfl (by simp) (one_slice _ _ _) (y := xs[k].members) ⟨⟨_, rfl, hsl⟩, rfl⟩ fresh_nil (by rw [HLM.out]; omega) (by decide) (Nat.le_trans hx.size (Ext.size (by repeat (first | with_reducible exact Ext.refl _ | with_reducible assumption | with_reducible refine Ext.drew ?_ | with_reducible refine Ext.alloc ?_ _ | (refine Ext.setCell ?_ (by simp) _) | with_reducible refine Ext.trans ?_ (by with_reducible assumption))))) ?_; intro v2 w2 hB3 hE3)
      go_roundw
      case rel => exact ⟨k + 1, by omega, by go_num, by rw [HST.out]; exact hB3, hE3 w (Nat.le_refl _) (by repeat (first | with_reducible exact Ext.refl _ | with_reducible assumption | with_reducible refine Ext.drew ?_ | with_reducible refine Ext.alloc ?_ _ | (refine Ext.setCell ?_ (by simp) _) | with_reducible refine Ext.trans ?_ (by with_reducible assumption)))⟩
      case measure => simp [intOf]; omega
    · go_wp2
      go_ret
      rw [List.take_of_length_le (by omega)] at hB
      exact ⟨_, rfl, hB.sl.of_at hx, hx⟩

set_option maxHeartbeats 400000 in
set_option maxRecDepth 20000 in
theorem spec_l26Groups (v : Value) (xs : List Entity) (w : World) (h : Sl entityR w v xs) (hb : xs.length ≤ 1099511627775) (hb2 : sumMem xs ≤ 1099511627776) :
    Calls Try.prog 33 #[v] w fun e w2 => ∃ v2, e = .returned v2 ∧ Sl (slR intR) w2 v2 (mems xs) ∧ Ext w w2 := by
  obtain ⟨A, cap, rfl, hm⟩ := h.form
  go_enter Try.func33, Try.ntmps33
  go_wp2
  go_loopw [3, 4] (fun t i wr => ∃ (k : Nat) (F : List Nat), k ≤ xs.length ∧ i = .int .i64 k ∧ Bld (slO intO) wr w.heap.size 40 t (mems (xs.take k)) F ∧ Ext w wr) (fun _ i _ => xs.length - (intOf i).toNat)
  case atStart => exact ⟨0, [], Nat.zero_le _, rfl, Bld.lit w (Nat.le_refl _) _, (Ext.refl _).alloc _⟩
  case round =>
    obtain ⟨k, F, hk, rfl, hB, hx⟩ := hrel
    by_cases hlt : k < xs.length
    · obtain ⟨b, off, A2, cap2, rfl, hI, hsl, hc0, hc1⟩ := h.ent hlt
      have hd1 : (wr.alloc (.cells #[] 3)).cell? ⟨b, off + k * 2 + 1, none⟩ = _ := (hx.alloc _).cell hc1
      have hlm : (mems (xs.take k)).length = k := by rw [mems_len, List.length_take]; omega
      have HLM := hid hlm
      have HST := hid (mems_step xs k hlt)
      have hat := sumMem_at xs k hlt
      have hml : ([] : List Int).length + xs[k].members.length ≤ 1099511627776 := by simp only [List.length_nil]; omega
      clear hlm hat
      go_wp2_with (first | (at_builtin; refine wpList_appn elemInt rfl _ _ rfl (Bld.lit wr (Nat.le_refl _) _) rfl rfl (hsl.mono (by repeat (first | with_reducible exact Ext.refl _ | with_reducible assumption | with_reducible refine Ext.drew ?_ | with_reducible refine Ext.alloc ?_ _ | (refine Ext.setCell ?_ (by simp) _) | with_reducible refine Ext.trans ?_ (by with_reducible assumption)))) hml (Ext.size (by repeat (first | with_reducible exact Ext.refl _ | with_reducible assumption | with_reducible refine Ext.drew ?_ | with_reducible refine Ext.alloc ?_ _ | (refine Ext.setCell ?_ (by simp) _) | with_reducible refine Ext.trans ?_ (by with_reducible assumption)))) ?_; intro v2 w2 hB2 hE2; rw [List.nil_append] at hB2; obtain ⟨F1, ho, hn1, hn2⟩ := hB2.done; have hn : NewF wr F1 := ⟨hn1, hn2⟩; have x2 := hE2 wr (Nat.le_refl _) (by repeat (first | with_reducible exact Ext.refl _ | with_reducible assumption | with_reducible refine Ext.drew ?_ | with_reducible refine Ext.alloc ?_ _ | (refine Ext.setCell ?_ (by simp) _) | with_reducible refine Ext.trans ?_ (by with_reducible assumption))); obtain ⟨A9, cap9, e9, _⟩ := ho.form; subst e9) | (at_builtin; refine wpList_app1 elemInts Nat.zero_lt_one rfl _ _ rfl (hB.ext x2) rfl _ 1 rfl rfl (one_slice _ _ _) (y := xs[k].members) ⟨_, rfl, ho⟩ (hB.fresh hn hx.size) (by rw [HLM.out]; omega) (by decide) (Nat.le_trans hx.size x2.size) ?_; intro v3 w3 hB3 hE3))
      go_roundw
      case rel => exact ⟨k + 1, _, by omega, by go_num, by rw [HST.out]; exact hB3, hE3 w (Nat.le_refl _) (by repeat (first | with_reducible exact Ext.refl _ | with_reducible assumption | with_reducible refine Ext.drew ?_ | with_reducible refine Ext.alloc ?_ _ | (refine Ext.setCell ?_ (by simp) _) | with_reducible refine Ext.trans ?_ (by with_reducible assumption)))⟩
      case measure => simp [intOf]; omega
    · go_wp2
      go_ret
      rw [List.take_of_length_le (by omega)] at hB
      exact ⟨_, rfl, hB.sl, hx⟩
end Go.Proofs.Ytfcbapaojoecgab

namespace Go.Proofs.Ytfcbapaojoecgab
open Go.RowKit

def grpAt (all grp : List Int) (k : Nat) : Bool := inB (grp.getD k 0) 1 399 && (k == 0 || decide (grp.getD (k - 1) 0 < grp.getD k 0)) && !hasI (grp.getD k 0) all
def grpOk (all grp : List Int) : Bool := (List.range grp.length).all (grpAt all grp)
def goS : List Int → List (List Int) → Bool
  | all, [] => decide (all.length ≤ 8)
  | all, g :: gs => grpOk all g && !(g.length == 0) && goS (all ++ g) gs
def areGroups (g : List (List Int)) : Bool := goS [] g
theorem grpOk_false {all grp : List Int} {k : Nat} (hk : k < grp.length) (h : grpAt all grp k = false) : grpOk all grp = false :=
  List.all_eq_false.2 ⟨k, List.mem_range.2 hk, by simp [h]⟩
theorem grpOk_true {all grp : List Int} (h : ∀ j, j < grp.length → grpAt all grp j = true) : grpOk all grp = true := List.all_eq_true.2 fun j hj => h j (List.mem_range.1 hj)
theorem goS_step (all : List Int) (g : List (List Int)) (k : Nat) (h : k < g.length) : goS all (g.drop k) = (grpOk all g[k] && !(g[k].length == 0) && goS (all ++ g[k]) (g.drop (k + 1))) := by
  rw [List.drop_eq_getElem_cons h, goS]
theorem grpAt_eq {all grp : List Int} {k : Nat} (h : k < grp.length) : grpAt all grp k = (inB grp[k] 1 399 && (k == 0 || decide (grp.getD (k - 1) 0 < grp[k])) && !hasI grp[k] all) := by
  unfold grpAt; rw [getD_at h]

theorem grp_no {g : List (List Int)} {all : List Int} {k j : Nat} {hk : k < g.length} (hg : areGroups g = goS all (g.drop k)) (hs : goS all (g.drop k) = (grpOk all g[k] && !(g[k].length == 0) && goS (all ++ g[k]) (g.drop (k + 1)))) (hj : j < g[k].length) (h : grpAt all g[k] j = false) : areGroups g = false := by
  rw [hg, hs, grpOk_false hj h]; rfl

set_option maxHeartbeats 400000 in
set_option maxRecDepth 20000 in
theorem spec_AreGroups (v : Value) (g : List (List Int)) (w : World) (h : Sl (slR intR) w v g) (hb : sumLen g ≤ 1099511627776) :
    Calls Try.prog 28 #[v] w fun e w2 => e = .returned (.bool (areGroups g)) ∧ Ext w w2 := by
  obtain ⟨A, cap, rfl, hm⟩ := h.form
  go_enter Try.func28, Try.ntmps28
  go_wp2
  go_loopw [3, 4] (fun t i wr => ∃ (k : Nat) (all : List Int), k ≤ g.length ∧ i = .int .i64 k ∧ Bld intO wr w.heap.size 3 t all [] ∧ areGroups g = goS all (g.drop k) ∧ all.length = sumLen (g.take k) ∧ Ext w wr) (fun _ i _ => g.length - (intOf i).toNat)
  case atStart => exact ⟨0, [], Nat.zero_le _, rfl, Bld.lit w (Nat.le_refl _) _, rfl, rfl, (Ext.refl _).alloc _⟩
  case round =>
    obtain ⟨k, all, hk, rfl, hB, hgo, hlen, hx⟩ := hrel
    have HG := hid hgo
    have HL := hid hlen
    clear hgo hlen
    have hsa := hB.sl
    by_cases hlt : k < g.length
    · obtain ⟨b1, off1, A1, cap1, rfl, hs1, hc1⟩ := (h.mono hx).sl hlt
      have HST := hid (goS_step all g k hlt)
      have hl63 : g[k].length ≤ 9223372036854775807 := by
        obtain ⟨_, _, _, h9⟩ := hs1.form
        exact h9
      go_wp2
      obtain ⟨wo, hwo⟩ : ∃ wo : World, wo = wr := ⟨_, rfl⟩
      go_loopw [5] (fun i w3 => ∃ j : Nat, j ≤ g[k].length ∧ i = .int .i64 j ∧ (∀ q, q < j → grpAt all g[k] q = true) ∧ Ext wo w3) (fun i _ => g[k].length - (intOf i).toNat)
      case atStart => exact ⟨0, Nat.zero_le _, rfl, fun q hq => absurd hq (Nat.not_lt_zero _), Ext.of_eq hwo⟩
      case round =>
        obtain ⟨j, hj, rfl, hz, hx3⟩ := hrel
        rw [← hwo] at hB hx hs1 hc1 hsa
        clear hwo
        have HZ := hid hz
        clear hz
        have hc2 := hx3.cell hc1
        by_cases hjl : j < g[k].length
        · obtain ⟨b2, off2, rfl, hi2, hc30⟩ := hs1.int hjl
          have hc3 := hx3.cell hc30
          have hcz1 : ∀ z : ExtOf wr, z.1.cell? ⟨b1, off1 + k, none⟩ = _ := fun z => z.2.cell hc2
          have hcz2 : ∀ z : ExtOf wr, z.1.cell? ⟨b2, off2 + j, none⟩ = _ := fun z => z.2.cell hc3
          have hbd := idxI_bd g[k][j] all
          have hnn := hid (idxI_nn g[k][j] all)
          cases hin : inB g[k][j] 1 399 with
          | false =>
            go_wp2_with fail
            refine wp_region_ext (by kernel_rfl) (by kernel_rfl) ?_
            repeat (go_big_quiet_step ((first | (go_at_call 29; exact quiet_same (Calls.mono (spec_l1In _ _ _ _) fun _ _ h9 => ⟨h9.1.trans (ret_bool hin), h9.2⟩)))))
            refine wpQuiet_nil ?_
            rintro w4 ⟨⟨_, x4⟩, rfl⟩
            go_wp2
            go_ret
            exact ⟨ret_bool (grp_no HG.out HST.out hjl (by rw [grpAt_eq hjl]; rw [hin]; rfl)).symm, (hx.trans hx3).trans x4⟩
          | true =>
            have HI := hid hin
            by_cases hj0 : 0 < j
            · have hjl1 : j - 1 < g[k].length := by omega
              obtain ⟨b3, off3, e3, hi3, hc40⟩ := hs1.int hjl1
              cases e3
              have hc4 := hx3.cell hc40
              have hsub : ((j - 1 : Nat) : Int) = (j : Int) - 1 := by omega
              have hcz3 : ∀ z : ExtOf wr, z.1.cell? ⟨b2, off2 + (j - 1), none⟩ = _ := fun z => z.2.cell hc4
              have hgd : g[k].getD (j - 1) 0 = g[k][j - 1] := getD_at hjl1
              have HGD := hid hgd
              clear hgd
              by_cases hge : g[k][j] ≤ g[k][j - 1]
              · have hge2 : decide (g[k][j - 1] < g[k][j]) = false := by simpa using hge
                have HGE := hid hge2
                clear hge2
                go_wp2_with fail
                refine wp_region_ext (by kernel_rfl) (by kernel_rfl) ?_
                repeat (go_big_quiet_step ((first | (go_at_call 29; exact quiet_same (Calls.mono (spec_l1In _ _ _ _) fun _ _ h9 => ⟨h9.1.trans (ret_bool hin), h9.2⟩)))))
                refine wpQuiet_nil ?_
                rintro w4 ⟨⟨_, x4⟩, rfl⟩
                go_wp2
                go_ret
                exact ⟨ret_bool (grp_no HG.out HST.out hjl (by rw [grpAt_eq hjl]; rw [HGD.out, HGE.out, show (j == 0) = false by simp; omega]; simp)).symm, (hx.trans hx3).trans x4⟩
              · have hge2 : decide (g[k][j - 1] < g[k][j]) = true := by simpa using hge
                have hge3 : decide (g[k][j] ≤ g[k][j - 1]) = false := by simpa using hge
                have HGE := hid hge2
                clear hge2 hge
                by_cases hh : hasI g[k][j] all = true
                · have h0 : 0 ≤ idxI g[k][j] all := by have := hnn.out; rw [hh] at this; simpa using this
                  have HH := hid hh
                  clear hh
                  go_wp2_with fail
                  refine wp_region_ext (by kernel_rfl) (by kernel_rfl) ?_
                  repeat (go_big_quiet_step ((first | (go_at_call 29; exact quiet_same (Calls.mono (spec_l1In _ _ _ _) fun _ _ h9 => ⟨h9.1.trans (ret_bool hin), h9.2⟩)) | (go_at_call 66; exact quiet_same (spec_l24Find _ all _ _ (hsa.mono (hx3.trans (Subtype.property _))))))))
                  refine wpQuiet_nil ?_
                  rintro w4 ⟨⟨_, x4⟩, rfl⟩
                  go_wp2
                  go_ret
                  exact ⟨ret_bool (grp_no HG.out HST.out hjl (by rw [grpAt_eq hjl]; rw [HH.out]; simp)).symm, (hx.trans hx3).trans x4⟩
                · have hh2 : hasI g[k][j] all = false := by simpa using hh
                  have h0 : idxI g[k][j] all < 0 := by have := hnn.out; rw [hh2] at this; simpa using this
                  have HH := hid hh2
                  clear hh hh2
                  go_wp2_with fail
                  refine wp_region_ext (by kernel_rfl) (by kernel_rfl) ?_
                  repeat (go_big_quiet_step ((first | (go_at_call 29; exact quiet_same (Calls.mono (spec_l1In _ _ _ _) fun _ _ h9 => ⟨h9.1.trans (ret_bool hin), h9.2⟩)) | (go_at_call 66; exact quiet_same (spec_l24Find _ all _ _ (hsa.mono (hx3.trans (Subtype.property _))))))))
                  refine wpQuiet_nil ?_
                  rintro w4 ⟨⟨_, x4⟩, rfl⟩
                  go_wp2
                  go_roundw
                  case rel => exact ⟨j + 1, by omega, by go_num, lt_succ_all HZ.out (by rw [grpAt_eq hjl]; rw [HH.out, HI.out, HGD.out, HGE.out, Bool.or_true]; rfl), hx3.trans x4⟩
                  case measure => simp [intOf]; omega
            · have hjd1 : decide (0 < j) = false := by simpa using hj0
              have hjd2 : decide ((0 : Int) < (j : Int)) = false := by simp; omega
              have HJ0 := hid (show (j == 0) = true by simp; omega)
              clear hj0
              by_cases hh : hasI g[k][j] all = true
              · have h0 : 0 ≤ idxI g[k][j] all := by have := hnn.out; rw [hh] at this; simpa using this
                have HH := hid hh
                clear hh
                go_wp2_with fail
                refine wp_region_ext (by kernel_rfl) (by kernel_rfl) ?_
                repeat (go_big_quiet_step ((first | (go_at_call 29; exact quiet_same (Calls.mono (spec_l1In _ _ _ _) fun _ _ h9 => ⟨h9.1.trans (ret_bool hin), h9.2⟩)) | (go_at_call 66; exact quiet_same (spec_l24Find _ all _ _ (hsa.mono (hx3.trans (Subtype.property _))))))))
                refine wpQuiet_nil ?_
                rintro w4 ⟨⟨_, x4⟩, rfl⟩
                go_wp2
                go_ret
                exact ⟨ret_bool (grp_no HG.out HST.out hjl (by rw [grpAt_eq hjl]; rw [HH.out]; simp)).symm, (hx.trans hx3).trans x4⟩
              · have hh2 : hasI g[k][j] all = false := by simpa using hh
                have h0 : idxI g[k][j] all < 0 := by have := hnn.out; rw [hh2] at this; simpa using this
                have HH := hid hh2
                clear hh hh2
                go_wp2_with fail
                refine wp_region_ext (by kernel_rfl) (by kernel_rfl) ?_
                repeat (go_big_quiet_step ((first | (go_at_call 29; exact quiet_same (Calls.mono (spec_l1In _ _ _ _) fun _ _ h9 => ⟨h9.1.trans (ret_bool hin), h9.2⟩)) | (go_at_call 66; exact quiet_same (spec_l24Find _ all _ _ (hsa.mono (hx3.trans (Subtype.property _))))))))
                refine wpQuiet_nil ?_
                rintro w4 ⟨⟨_, x4⟩, rfl⟩
                go_wp2
                go_roundw
                case rel => exact ⟨j + 1, by omega, by go_num, lt_succ_all HZ.out (by rw [grpAt_eq hjl]; rw [HH.out, HI.out, HJ0.out]; rfl), hx3.trans x4⟩
                case measure => simp [intOf]; omega
        · by_cases hne : g[k].length = 0
          · have hne2 : ((g[k].length : Int) == 0) = true := by simp [hne]
            have HNE := hid hne
            clear hne
            go_wp2
            go_ret
            exact ⟨ret_bool (by rw [HG.out, HST.out, show (g[k].length == 0) = true by simp [HNE.out]]; simp), hx.trans hx3⟩
          · have hne2 : ((g[k].length : Int) == 0) = false := by simp; intro e; exact hne (by rw [e]; rfl)
            have HNE := hid hne
            have hat := sumLen_at g k hlt
            have hlb : all.length + g[k].length ≤ 1099511627776 := by have := HL.out; omega
            have hok : grpOk all g[k] = true := grpOk_true fun q hq => HZ.out q (by omega)
            have HOK := hid hok
            have HLS := hid (sumLen_take g k hlt)
            clear hne hat hok
            have hBx := hB.ext hx3
            have hsx := hs1.mono hx3
            go_wp2_with (at_builtin; refine wpList_appn elemInt rfl _ _ rfl hBx rfl rfl hsx hlb (Nat.le_trans hx.size hx3.size) ?_; intro v2 w2 hB3 hE3)
            go_roundw
            case rel => exact ⟨k + 1, all ++ g[k], by omega, by go_num, hB3, by rw [HG.out, HST.out, HOK.out, show (g[k].length == 0) = false by simpa using HNE.out]; rfl, by rw [List.length_append, HLS.out, HL.out], hE3 w (Nat.le_refl _) (hx.trans hx3)⟩
            case measure => simp [intOf]; omega
    · obtain ⟨A9, cap9, e9, _⟩ := hsa.form
      subst e9
      have hgo := HG.out
      rw [List.drop_of_length_le (by omega), goS] at hgo
      have HG2 := hid hgo
      clear hgo
      go_wp2
      go_ret
      exact ⟨ret_bool (by rw [HG2.out]; exact decide_eq_decide.2 (by omega)), hx⟩
end Go.Proofs.Ytfcbapaojoecgab

namespace Go.Proofs.Ytfcbapaojoecgab
open Go.RowKit

theorem ovRow_mem (b : List (List Int)) (x : List Int) : (ovRow b x).length = b.length := by simp [ovRow]

set_option maxHeartbeats 400000 in
set_option maxRecDepth 20000 in
theorem spec_OverlapMatrix (v u : Value) (a b : List (List Int)) (w : World) (h : Sl (slR intR) w v a) (h2 : Sl (slR intR) w u b) :
    Calls Try.prog 32 #[v, u] w fun e w2 => ∃ v2 F, e = .returned v2 ∧ OwnSl (slO intO) w2 v2 (ovMat a b) F ∧ NewF w F ∧ Ext w w2 := by
  obtain ⟨A, cap, rfl, hm⟩ := h.form
  obtain ⟨B, cap2, rfl, hm2⟩ := h2.form
  by_cases hbig : 8 < a.length ∨ 8 < b.length
  · have hov : ovMat a b = [] := by unfold ovMat; rw [if_pos hbig]
    rw [hov]
    clear hov
    have hdone := (Bld.lit (R := slO intO) w (Nat.le_refl _) 40).done
    obtain ⟨F', d1, d2, d3⟩ := hdone
    have HD := hid d1
    clear d1
    by_cases ha : 8 < a.length
    · go_enter Try.func32, Try.ntmps32
      go_wp2
      go_ret
      first | exact ⟨_, F', rfl, HD.out, ⟨d2, d3⟩, (by repeat (first | with_reducible exact Ext.refl _ | with_reducible assumption | with_reducible refine Ext.drew ?_ | with_reducible refine Ext.alloc ?_ _ | with_reducible refine Ext.trans ?_ (by with_reducible assumption)))⟩ | exact ⟨_, rfl, F', HD.out, ⟨d2, d3⟩, (by repeat (first | with_reducible exact Ext.refl _ | with_reducible assumption | with_reducible refine Ext.drew ?_ | with_reducible refine Ext.alloc ?_ _ | with_reducible refine Ext.trans ?_ (by with_reducible assumption)))⟩
    · have hb : 8 < b.length := by omega
      go_enter Try.func32, Try.ntmps32
      go_wp2
      go_ret
      exact ⟨_, F', rfl, HD.out, ⟨d2, d3⟩, (by repeat (first | with_reducible exact Ext.refl _ | with_reducible assumption | with_reducible refine Ext.drew ?_ | with_reducible refine Ext.alloc ?_ _ | with_reducible refine Ext.trans ?_ (by with_reducible assumption)))⟩
  · have hov : ovMat a b = a.map (ovRow b) := by unfold ovMat; rw [if_neg hbig]
    rw [hov]
    clear hov
    have ha : ¬ 8 < a.length := by omega
    have hb : ¬ 8 < b.length := by omega
    clear hbig
    go_enter Try.func32, Try.ntmps32
    go_wp2
    go_loopw [5, 6] (fun t i wr => ∃ (k : Nat) (F : List Nat), k ≤ a.length ∧ i = .int .i64 k ∧ Bld (slO intO) wr w.heap.size 40 t ((a.take k).map (ovRow b)) F ∧ Ext w wr) (fun _ i _ => a.length - (intOf i).toNat)
    case atStart => exact ⟨0, [], Nat.zero_le _, rfl, by simpa using Bld.lit w (Nat.le_refl _) _, (Ext.refl _).alloc _⟩
    case round =>
      obtain ⟨k, F, hk, rfl, hB, hx⟩ := hrel
      by_cases hlt : k < a.length
      · obtain ⟨b1, off1, A1, cap1, rfl, hs1, hc1⟩ := h.sl hlt
        go_wp2
        obtain ⟨wo, hwo⟩ : ∃ wo : World, wo = wr := ⟨_, rfl⟩
        go_loopw [7, 8] (fun t i w3 => ∃ (j : Nat), j ≤ b.length ∧ i = .int .i64 j ∧ Bld intO w3 wo.heap.size 3 t (ovRow (b.take j) a[k]) [] ∧ Ext wo w3) (fun _ i _ => b.length - (intOf i).toNat)
        case atStart => exact ⟨0, Nat.zero_le _, rfl, by rw [hwo]; simpa [ovRow] using Bld.lit wr (Nat.le_refl _) _, by rw [hwo]; exact (Ext.refl _).alloc _⟩
        case round =>
          obtain ⟨j, hj, rfl, hB2, hx2⟩ := hrel
          rw [← hwo] at hB hx
          by_cases hltb : j < b.length
          · obtain ⟨b2, off2, A2, cap2', rfl, hs2, hc2⟩ := h2.sl hltb
            have hS : ∀ W, Ext w W → W.cell? ⟨b1, off1 + k, none⟩ = some (.slice A1 a[k].length cap1) ∧ W.cell? ⟨b2, off2 + j, none⟩ = some (.slice A2 b[j].length cap2') := fun W x => ⟨x.cell hc1, x.cell hc2⟩
            have HK := hid hS
            clear hS hc1 hc2
            have hst := ovRow_step b a[k] j hltb
            have HS := hid hst
            clear hst
            have hrl : (ovRow (b.take j) a[k]).length ≤ 8 := by rw [ovRow_len, List.length_take]; omega
            go_wp2_with fail
            go_region_held3 (fun w' => w'.cell? ⟨b1, off1 + k, none⟩ = some (.slice A1 a[k].length cap1) ∧ w'.cell? ⟨b2, off2 + j, none⟩ = some (.slice A2 b[j].length cap2'))
              (exact HK.out _ (by repeat (first | with_reducible exact Ext.refl _ | with_reducible assumption | with_reducible refine Ext.drew ?_ | with_reducible refine Ext.alloc ?_ _ | with_reducible refine Ext.trans ?_ (by with_reducible assumption))))
              (first | (go_at_call 69; refine (spec_l25Count _ _ a[k] b[j] _ ?ha ?hb).mono ?_; (case ha => exact hs1.mono (by repeat (first | with_reducible exact Ext.refl _ | with_reducible assumption | with_reducible refine Ext.drew ?_ | with_reducible refine Ext.alloc ?_ _ | with_reducible refine Ext.trans ?_ (by with_reducible assumption)))); (case hb => exact hs2.mono (by repeat (first | with_reducible exact Ext.refl _ | with_reducible assumption | with_reducible refine Ext.drew ?_ | with_reducible refine Ext.alloc ?_ _ | with_reducible refine Ext.trans ?_ (by with_reducible assumption)))); rintro e w5 ⟨rfl, rfl⟩) | (refine step_app1 elemInt (by decide) rfl _ _ rfl (hB2.ext (by repeat (first | with_reducible exact Ext.refl _ | with_reducible assumption | with_reducible refine Ext.drew ?_ | with_reducible refine Ext.alloc ?_ _ | with_reducible refine Ext.trans ?_ (by with_reducible assumption)))) rfl wr.heap.size 1 rfl (heap_alloc_new wr _) (one_int _) (own_int _ _ (by unfold I64; split <;> omega)) fresh_nil (by omega) (by decide) (Nat.le_trans hx2.size (Ext.size (by repeat (first | with_reducible exact Ext.refl _ | with_reducible assumption | with_reducible refine Ext.drew ?_ | with_reducible refine Ext.alloc ?_ _ | with_reducible refine Ext.trans ?_ (by with_reducible assumption))))) (w0 := wo) (Nat.le_refl _) (by repeat (first | with_reducible exact Ext.refl _ | with_reducible assumption | with_reducible refine Ext.drew ?_ | with_reducible refine Ext.alloc ?_ _ | with_reducible refine Ext.trans ?_ (by with_reducible assumption))) ?_; intro v2 w2 hB3 x9))
            go_wp2
            go_roundw
            case rel =>
              refine ⟨j + 1, by omega, by go_num, ?_, x9⟩
              rw [HS.out, show min (100 : Int) (cntIn a[k] b[j]) = if ((cntIn a[k] b[j] : Nat) : Int) < 100 then ((cntIn a[k] b[j] : Nat) : Int) else 100 by split <;> omega]
              exact hB3
            case measure => simp [intOf]; omega
          · rw [List.take_of_length_le (by omega)] at hB2
            obtain ⟨F1, ho, hn1, hn2⟩ := hB2.done
            have hn : NewF wo F1 := ⟨hn1, hn2⟩
            obtain ⟨A3, cap3, e3, _⟩ := ho.form
            rw [e3] at ho
            subst e3
            have hBx := hB.ext hx2
            have hG := hB.fresh hn hx.size
            have hlen : ((a.take k).map (ovRow b)).length ≤ 8 := by rw [List.length_map, List.length_take]; omega
            go_wp2_with (at_builtin; refine wpList_app1 elemInts (by decide) rfl _ _ rfl hBx rfl wr.heap.size 1 rfl rfl (one_slice _ _ _) (y := ovRow b a[k]) ⟨_, rfl, ho⟩ hG (by omega) (by decide) (Nat.le_trans hx.size hx2.size) ?_; intro v2 w2 hB3 hE3)
            go_roundw
            case rel => exact ⟨k + 1, _, by omega, by go_num, by rw [List.take_succ_eq_append_getElem hlt, List.map_append]; exact hB3, hE3 w (Nat.le_refl _) (hx.trans hx2)⟩
            case measure => simp [intOf]; omega
      · go_wp2
        go_ret
        rw [List.take_of_length_le (by omega)] at hB
        obtain ⟨F', d1, d2, d3⟩ := hB.done
        exact ⟨_, F', rfl, d1, ⟨d2, d3⟩, hx⟩
end Go.Proofs.Ytfcbapaojoecgab

namespace Go.Proofs.Ytfcbapaojoecgab
open Go.RowKit

theorem zeros_own (W : World) : ∀ n : Nat, OwnCells intO W (List.replicate n (.int .i64 0)) (List.replicate n (0 : Int)) []
  | 0 => .nil
  | n + 1 => by
    simp only [List.replicate_succ]
    exact ⟨[.int .i64 0], _, [], [], rfl, rfl, ⟨⟨rfl, by unfold I64; omega⟩, rfl⟩, zeros_own W n⟩
theorem ownInts (W : World) (n : Nat) (T : TypeId) (hn : n ≤ maxLen) : OwnSl intO (W.alloc (.cells (List.replicate n (.int .i64 0)).toArray T)) (.slice (some ⟨W.heap.size, 0, none⟩) n n) (List.replicate n (0 : Int)) [W.heap.size] := by
  have h := OwnSl.of_blk (R := intO) (xs := List.replicate n (0 : Int)) (F2 := []) (Blk.new W T (List.replicate n (.int .i64 0)).toArray) (by simpa using hn) (zeros_own _ n)
  simpa using h

set_option maxHeartbeats 400000 in
set_option maxRecDepth 20000 in
theorem impl_bestValues (v : Value) (m : List (List Int)) (w : World) (h : Sl (slR intR) w v m) (hok : okMat m = true) :
    Calls Try.prog 74 #[v] w fun e w2 => ∃ g off cap f F, e = .returned (.slice (some ⟨g, off, none⟩) (m.length + 1 : Nat) cap) ∧ OwnSl (slO intO) w2 (.slice (some ⟨g, off, none⟩) (m.length + 1) cap) (tab (m.length + 1) 256 f) F ∧
      (∀ j ≤ m.length, ∀ s < 256, f j s = bv (m.drop j) s) ∧ NewF w F ∧ Ext w w2 := by
  obtain ⟨A, cap, rfl, hm⟩ := h.form
  have hm8 := okMat_len hok
  have HM := hid hok
  clear hok
  obtain ⟨i0, hi0, hz0, hz1, hz2⟩ := info_parts infoInts
  obtain ⟨i1, hi1, hz3, hz4, hz5⟩ := info_parts infoInt
  have hmk := run_mk (P := Try.prog) 23 40 i0 _ [.slice none 0 0] 24 Try.underlying23 hi0 hz0 rfl hz1 hz2 (m.length + 1) (by omega) (by omega)
  rw [flat_rep] at hmk
  simp only [Int.natCast_add, Int.natCast_one] at hmk
  have hmk2 := run_mk (P := Try.prog) 40 3 i1 _ [.int .i64 0] 8 Try.underlying40 hi1 hz3 rfl hz4 hz5 256 (by omega) (by omega)
  rw [flat_rep] at hmk2
  rw [show (((256 : Nat) : Int)) = 256 from rfl] at hmk2
  obtain ⟨Z, hZ⟩ : ∃ Z, Z = (List.replicate 256 (Value.int .i64 0)).toArray := ⟨_, rfl⟩
  rw [← hZ] at hmk2
  have HZ := hid hZ
  obtain ⟨row, hR⟩ : ∃ row, row = List.replicate 256 (0 : Int) := ⟨_, rfl⟩
  have HR := hid hR
  clear hR
  clear hZ
  go_enter Try.func74, Try.ntmps74
  go_wp2
  go_loopw [15] (fun i wr => ∃ (k : Nat) (done : List Value) (F : List Nat), k ≤ m.length + 1 ∧ i = .int .i64 k ∧ Blk wr w.heap.size 40 (done ++ List.replicate (m.length + 1 - k) (.slice none 0 0)) ∧
    OwnCells (slO intO) wr done (List.replicate k row) F ∧ FromF w.heap.size F ∧ Ext w wr) (fun i _ => m.length + 1 - (intOf i).toNat)
  case atStart => exact ⟨0, [], [], Nat.zero_le _, rfl, by rw [List.nil_append, Nat.sub_zero]; have := Blk.new w 40 (Array.replicate (m.length + 1) (.slice none 0 0)); rwa [Array.toList_replicate] at this, .nil, .nil _, (Ext.refl _).alloc _⟩
  case round =>
    obtain ⟨k, done, F, hk, rfl, hblk, hown, hF, hx⟩ := hrel
    by_cases hlt : k < m.length + 1
    · have hz : List.replicate (m.length + 1 - k) (Value.slice none 0 0) = .slice none 0 0 :: List.replicate (m.length + 1 - (k + 1)) (.slice none 0 0) := by
        rw [show m.length + 1 - k = (m.length + 1 - (k + 1)) + 1 by omega, List.replicate_succ]
      rw [hz] at hblk
      clear hz
      have hl : done.length = k := by rw [hown.length, List.length_replicate]; exact Nat.mul_one k
      have hgl := block_lt hblk.out
      have HL := hid hl
      clear hl
      have x2 : Ext wr (wr.alloc (.cells Z 3)) := (Ext.refl _).alloc _
      have ho : OwnSl intO (wr.alloc (.cells Z 3)) (.slice (some ⟨wr.heap.size, 0, none⟩) 256 256) row [wr.heap.size] := by rw [HZ.out, HR.out]; exact ownInts wr 256 _ (by decide)
      have hn : NewF wr [wr.heap.size] := ⟨by simp, by simp⟩
      have hblk2 := hblk.ext x2
      obtain ⟨hcell, hfr⟩ := hblk2.at_ HL.out
      have hst := hblk2.store HL.out (.slice (some ⟨wr.heap.size, 0, none⟩) 256 256)
      obtain ⟨ho3, hF3⟩ := hown.step (w3 := (wr.alloc (.cells Z 3)).setCell ⟨w.heap.size, k, none⟩ (.slice (some ⟨wr.heap.size, 0, none⟩) 256 256)) (R := slO intO) hF x2 ⟨_, rfl, ho⟩ hn hgl (fun b hb => keep_setCell hb)
      clear hblk hblk2 HL
      have hx3 : Ext w ((wr.alloc (.cells Z 3)).setCell ⟨w.heap.size, k, none⟩ (.slice (some ⟨wr.heap.size, 0, none⟩) 256 256)) := (hx.trans x2).setCell (by simp) _
      rw [World.setCell_alloc_past _ _ k _ hgl] at hst ho3 hx3
      have HO := hid ho3
      have HS := hid hst
      have HX := hid hx3
      clear ho3 hst ho hn hx3
      go_wp2
      go_roundw
      case rel => exact ⟨k + 1, _, _, by omega, by go_num, HS.out, by rw [List.replicate_succ']; exact HO.out, hF3, HX.out⟩
      case measure => simp [intOf]; omega
    · have hkk : k = m.length + 1 := by omega
      rw [show m.length + 1 - k = 0 by omega, List.replicate_zero, List.append_nil] at hblk
      rw [hkk, HR.out, tab_zero] at hown
      have hT : OwnSl (slO intO) wr (.slice (some ⟨w.heap.size, 0, none⟩) (m.length + 1) (m.length + 1)) (tab (m.length + 1) 256 fun _ _ => 0) (w.heap.size :: F) := by
        have := OwnSl.of_blk hblk (by rw [tab_len]; unfold maxLen; omega) hown
        rwa [tab_len] at this
      have hNF := hF.new (w := w) rfl
      clear hblk hown hF
      obtain ⟨G, hG⟩ : ∃ G, G = w.heap.size :: F := ⟨_, rfl⟩
      rw [← hG] at hT hNF
      clear hG
      go_wp2
      go_loopw [5] (fun i w2 => ∃ (k : Nat) (f : Nat → Nat → Int), k ≤ m.length ∧ i = .int .i64 ((k : Int) - 1) ∧ OwnSl (slO intO) w2 (.slice (some ⟨w.heap.size, 0, none⟩) (m.length + 1) (m.length + 1)) (tab (m.length + 1) 256 f) G ∧
        (∀ j, k ≤ j → j ≤ m.length → ∀ s < 256, f j s = bv (m.drop j) s) ∧ Ext w w2) (fun i _ => (intOf i + 1).toNat)
      case atStart => exact ⟨m.length, _, Nat.le_refl _, rfl, hT, fun j h1 h2 s _ => by rw [show j = m.length by omega, bv_end], hx⟩
      case round =>
        obtain ⟨k1, f, hk1, rfl, hT, hf, hx1⟩ := hrel
        cases k1 with
        | zero =>
          go_wp2
          go_ret
          exact ⟨_, _, _, f, G, by simp, hT, fun j hj => hf j (Nat.zero_le _) hj, hNF, hx1⟩
        | succ p =>
          have HF := hid hf
          clear hf
          have hp1 : ((p + 1 : Nat) : Int) - 1 = (p : Int) := by omega
          rw [hp1]
          clear hp1
          obtain ⟨b, o2, c2, hc1, hbG, hgb, _, _, _⟩ := tab_at hT hNF.1 (show p < m.length + 1 by omega) (show 0 < 256 by omega)
          rw [Nat.zero_add] at hc1
          go_wp2
          obtain ⟨wo, hwo⟩ : ∃ wo : World, wo = wr := ⟨_, rfl⟩
          go_loopw [35] (fun i w2 => ∃ (s : Nat) (f : Nat → Nat → Int), s ≤ 256 ∧ i = .int .i64 s ∧ OwnSl (slO intO) w2 (.slice (some ⟨w.heap.size, 0, none⟩) (m.length + 1) (m.length + 1)) (tab (m.length + 1) 256 f) G ∧
            (∀ j, p + 1 ≤ j → j ≤ m.length → ∀ s < 256, f j s = bv (m.drop j) s) ∧ (∀ u < s, f p u = bv (m.drop p) u) ∧ Ext w w2) (fun i _ => 256 - (intOf i).toNat)
          case atStart => exact ⟨0, f, by omega, rfl, hT, HF.out, fun u hu => by omega, hx1⟩
          case round =>
            clear hT hc1 hx1 HF
            obtain ⟨s, f, hs, rfl, hT, hf, hfp, hx1⟩ := hrel
            by_cases hlt : s < 256
            · have HF := hid hf
              have HP := hid hfp
              clear hf hfp
              obtain ⟨wd, hwd⟩ : ∃ wd : World, wd = wr.drew := ⟨_, rfl⟩
              have xd : Ext wr wd := by rw [hwd]; exact (Ext.refl _).drew
              obtain ⟨b, o2, c2, hc1, hbG, hgb, hc2, hfr, hst⟩ := tab_at (hT.ext xd) hNF.1 (show p < m.length + 1 by omega) hlt
              obtain ⟨b', o2', c2', hc3, _, _, hc4, _, _⟩ := tab_at (hT.ext xd) hNF.1 (show p + 1 < m.length + 1 by omega) hlt
              rw [Nat.zero_add] at hc1 hc3
              have HS := hid hst
              have HW := hid hwd
              clear hwd
              clear hst
              go_wp2_with fail
              refine wp_region_tail 14 HW.out (by kernel_rfl) (by kernel_rfl) ?_
              simp only [List.take_succ_cons, List.take_zero, List.drop_succ_cons, List.drop_zero]
              repeat (first | go_big_quiet_step ((fail)) | (go_big_quiet_want; go_big_quiet_op; apply Exists.intro; refine ⟨?_, ?_⟩; (fail); go_big_quiet_on))
              refine wpQuiet_nil ?_
              have x3 : ∀ x, Ext w (wd.setCell ⟨b, o2 + s, none⟩ x) := fun x => (hx1.trans xd).setCell (hNF.2 b hbG) x
              obtain ⟨A0, off0, A2, cap2, rfl, hsl, hc0⟩ := h.sl (show p < m.length by omega)
              have hc5 := (x3 (.int .i64 (f (p + 1) s))).cell hc0
              go_wp2
              have hI : I64 (f (p + 1) s) := by rw [HF.out (p + 1) (by omega) (by omega) s hlt]; have := bv_bd (m.drop (p + 1)) s (fun r hr => (okMat_mem HM.out (List.mem_of_mem_drop hr))); have := List.length_drop (i := p + 1) (l := m); unfold I64; omega
              have hT5 := HS.out _ hI
              have x5 := x3 (.int .i64 (f (p + 1) s))
              obtain ⟨w5, hw5⟩ : ∃ w5, w5 = wd.setCell ⟨b, o2 + s, none⟩ (.int .i64 (f (p + 1) s)) := ⟨_, rfl⟩
              rw [← hw5] at hT5 x5 ⊢
              clear hc1 hc2 hc3 hc4 hc5 hfr HS hw5
              have HR := bv_step m p (by omega) s
              have HB := okMat_at HM.out (show p < m.length by omega)
              go_loopw [57] (fun i w2 => ∃ (c : Nat) (f : Nat → Nat → Int), c ≤ m[p].length ∧ i = .int .i64 c ∧ OwnSl (slO intO) w2 (.slice (some ⟨w.heap.size, 0, none⟩) (m.length + 1) (m.length + 1)) (tab (m.length + 1) 256 f) G ∧
                (∀ j, p + 1 ≤ j → j ≤ m.length → ∀ s < 256, f j s = bv (m.drop j) s) ∧ (∀ u < s, f p u = bv (m.drop p) u) ∧ f p s = bvRow (bv (m.drop (p + 1))) s 0 (m[p].take c) (bv (m.drop (p + 1)) s) ∧ Ext w w2) (fun i _ => m[p].length - (intOf i).toNat)
              case atStart =>
                exact ⟨0, _, Nat.zero_le _, rfl, hT5, fun j h1 h2 t ht => by rw [upd_other _ _ (by omega)]; exact HF.out j h1 h2 t ht, fun u hu => by rw [upd_other _ _ (by omega)]; exact HP.out u hu,
                  by rw [upd_same, HF.out (p + 1) (by omega) (by omega) s hlt]; rfl, x5⟩
              case round =>
                clear hT hT5 x5 hx1 HF HP xd hbG hgb x3
                obtain ⟨c, f, hc, rfl, hT, hf, hfp, hfs, hx1⟩ := hrel
                by_cases hcl : c < m[p].length
                · have HF := hid hf
                  have HP := hid hfp
                  have HQ := hid hfs
                  clear hf hfp hfs
                  obtain ⟨b3, off3, rfl, hi3, hc3⟩ := (hsl.mono hx1).int hcl
                  by_cases hv : 0 < m[p][c]
                  · have hbt := bit_test (s := s) (c := c) (by omega)
                    have hc8 : c < 8 := by have := HB.2.1; omega
                    have hvb := HB.2.2 _ (List.getElem_mem hcl)
                    cases hbit : s.testBit c with
                    | true =>
                      rw [hbit, Bool.not_true] at hbt
                      have HV := hid hbit
                      clear hbit
                      go_wp2
                      go_roundw
                      case rel => exact ⟨c + 1, f, by omega, by go_num, hT, HF.out, HP.out, by rw [HQ.out, List.take_succ_eq_append_getElem hcl, bvRow_snoc, if_neg]; rw [List.length_take, Nat.min_eq_left (by omega), Nat.zero_add, HV.out]; simp, hx1⟩
                      case measure => simp [intOf]; omega
                    | false =>
                      rw [hbit, Bool.not_false] at hbt
                      have HV := hid hbit
                      clear hbit
                      have hls : s ||| 1 <<< c < 256 := bit_set_lt (n := 8) hlt hc8
                      have hor := bit_setw (s := s) (c := c) (by omega) (by omega)
                      obtain ⟨t, ht⟩ : ∃ t, t = s ||| 1 <<< c := ⟨_, rfl⟩
                      rw [← ht] at hls hor
                      have HT := hid ht
                      clear ht
                      obtain ⟨wd, hwd⟩ : ∃ wd : World, wd = wr.drew := ⟨_, rfl⟩
                      have xd : Ext wr wd := by rw [hwd]; exact (Ext.refl _).drew
                      obtain ⟨b, o2, c2, hc1, hbG, hgb, hc2, hfr, hst⟩ := tab_at (hT.ext xd) hNF.1 (show p < m.length + 1 by omega) hlt
                      obtain ⟨b', o2', c2', hc6, _, _, hc4, _, _⟩ := tab_at (hT.ext xd) hNF.1 (show p + 1 < m.length + 1 by omega) hls
                      rw [Nat.zero_add] at hc1 hc6
                      have h1 := bv_bd (m.drop (p + 1)) t (fun r hr => (okMat_mem HM.out (List.mem_of_mem_drop hr)))
                      rw [← HF.out (p + 1) (by omega) (by omega) t hls, List.length_drop] at h1
                      have h2 := bvRow_bd (B := 800) (next := bv (m.drop (p + 1))) (fun t => by have := bv_bd (m.drop (p + 1)) t (fun r hr => (okMat_mem HM.out (List.mem_of_mem_drop hr))); have := List.length_drop (i := p + 1) (l := m); omega) s (m[p].take c) 0 (bv (m.drop (p + 1)) s)
                        (fun x hx => HB.2.2 x (List.mem_of_mem_take hx)) (by have := bv_bd (m.drop (p + 1)) s (fun r hr => (okMat_mem HM.out (List.mem_of_mem_drop hr))); have := List.length_drop (i := p + 1) (l := m); omega)
                        (by have := bv_bd (m.drop (p + 1)) s (fun r hr => (okMat_mem HM.out (List.mem_of_mem_drop hr))); have := List.length_drop (i := p + 1) (l := m); omega)
                      rw [← HQ.out] at h2
                      have HS := hid hst
                      have HW := hid hwd
                      clear hwd hst
                      go_wp2_with fail
                      refine wp_region_tail 27 HW.out (by kernel_rfl) (by kernel_rfl) ?_
                      simp only [List.take_succ_cons, List.take_zero, List.drop_succ_cons, List.drop_zero]
                      repeat (first | go_big_quiet_step ((fail)) | (go_big_quiet_want; go_big_quiet_op; apply Exists.intro; refine ⟨?_, ?_⟩; (fail); go_big_quiet_on))
                      refine wpQuiet_nil ?_
                      go_wp2
                      go_roundw
                      case rel =>
                        refine ⟨c + 1, upd f p s _, by omega, by go_num, HS.out _ (by unfold I64; split <;> omega), fun j h1 h2 u hu => ?_, fun u hu => ?_, ?_, (hx1.trans xd).setCell (hNF.2 b hbG) _⟩
                        · rw [upd_other _ _ (by omega)]; exact HF.out j h1 h2 u hu
                        · rw [upd_other _ _ (by omega)]; exact HP.out u hu
                        · have hlc : (m[p].take c).length = c := by rw [List.length_take]; omega
                          rw [upd_same, List.take_succ_eq_append_getElem hcl, bvRow_snoc, hlc, Nat.zero_add, if_pos (And.intro hv HV.out), ← HQ.out, ← HT.out, ← HF.out (p + 1) (by omega) (by omega) t hls, Int.max_def]
                          split <;> split <;> omega
                      case measure => simp [intOf]; omega
                  · go_wp2
                    go_roundw
                    case rel => exact ⟨c + 1, f, by omega, by go_num, hT, HF.out, HP.out, by rw [HQ.out, List.take_succ_eq_append_getElem hcl, bvRow_snoc, if_neg (fun e => hv e.1)], hx1⟩
                    case measure => simp [intOf]; omega
                · go_wp2
                  go_roundw
                  case rel => exact ⟨s + 1, f, by omega, by go_num, hT, hf, fun u hu => by
                    rcases Nat.lt_or_ge u s with h9 | h9
                    · exact hfp u h9
                    · rw [show u = s by omega, hfs, HR, List.take_of_length_le (by omega)], hx1⟩
                  case measure => simp [intOf]; omega
            · go_wp2
              go_roundw
              case rel => exact ⟨p, f, by omega, rfl, hT, fun j h1 h2 u hu => by
                rcases Nat.lt_or_ge p j with h9 | h9
                · exact hf j h9 h2 u hu
                · rw [show j = p by omega]; exact hfp u (by omega), hx1⟩
              case measure => simp [intOf]
end Go.Proofs.Ytfcbapaojoecgab

namespace Go.Proofs.Ytfcbapaojoecgab
open Go.RowKit

/-- an append; all that is known of the memory behind it -/
theorem wpList_app1h {P : Program} {α : Type} {R : RepO α} {ops : Array Oper} {rest : List Oper} {o : Oper} {a : Act} {W : World} {Q : Exit → Act → World → Prop} {t e : TypeId} {bytes : Nat} (E : ElemT P t e R.n bytes) (hsz : 0 < R.n)
    (hgd : o.guard = none) (s x : Operand) (ho : o.op = .call { callee := .builtin .append, args := #[s, x], argTypes := #[t, t] })
    {base : Nat} {v : Value} {xs : List α} {F : List Nat} (hb : Bld R W base e v xs F) (hs : a.eval s = v) {c : Array Value} {T : TypeId} (g k : Nat) (hx : a.eval x = .slice (some ⟨g, 0, none⟩) 1 k) (hg : g = W.heap.size)
    (h1 : ∀ u ∈ c.toList, u.oneCell' = true) {y : α} {G : List Nat} (hy : R.own W c.toList y G) (hG : (∀ b ∈ G, b ∉ F ∧ v.ownBlock ≠ some b) ∧ G.Nodup ∧ ∀ b ∈ G, base ≤ b)
    (hbytes : xs.length + 1 ≤ 1099511627776) (hby : bytes ≤ 128) (hbase : base ≤ W.heap.size)
    (h : ∀ v' w', Bld R w' base e v' (xs ++ [y]) (F ++ G) → (∀ w0 : World, w0.heap.size ≤ base → Ext w0 W → Ext w0 w') → Aft W w' v v' → wpList P ops Q rest (a.put o.dst v') w') :
    wpList P ops Q (o :: rest) a (W.alloc (.cells c T)) := by
  obtain ⟨ht, i, z, hi, hz, hsize, hby2, hzs⟩ := E
  have x1 : Ext W (W.alloc (.cells c T)) := (Ext.refl W).alloc _
  have hb1 := hb.ext x1
  have hl := hb1.lt
  obtain ⟨cs, b1, b2, b3, b4, b5⟩ := hb1
  have hy1 : R.own (W.alloc (.cells c T)) c.toList y G := R.own_keep (fun b hb => x1.block (R.own_lt hy b hb)) hy
  refine wpList_append_own_at (W.alloc (.cells c T)) hgd s x t ho base e i z R.n bytes ht hi hz hsize hby2 hzs hsz v xs.length cs hs b1 ⟨g, 0, none⟩ 1 k c.toList hx (by rw [R.len (R.own_rd hy), Nat.one_mul]) (fun j u hj => ?_) h1
    (by unfold maxLen; omega) (Nat.le_trans (Nat.mul_le_mul hbytes hby) (by decide)) (Nat.le_trans hbase x1.size) ?_
  · subst hg
    have : (W.alloc (.cells c T)).cell? ⟨W.heap.size, j, none⟩ = c[j]? := ((Ext.refl (W.alloc (.cells c T))).box).1 j
    rw [add_eq, Nat.zero_add, this]
    simpa using hj
  · intro v' w' hown hgr _ hat
    obtain ⟨h5, h6⟩ := bld_grown hl b2 b3 b4 b5 hy1 hG hown hgr hat
    refine h _ _ h5 (fun w0 h7 h8 => h6 w0 h7 (h8.trans x1)) ⟨fun b hb hv => ?_, Nat.le_trans x1.size hgr.size, fun b hb => ?_⟩
    · rw [hgr.block b (Nat.lt_of_lt_of_le hb x1.size) (fun e => hv e.symm), x1.block hb]
    · rcases hat with hat | hat
      · exact .inl (hat ▸ hb)
      · rw [hat] at hb
        injection hb with hb
        have := x1.size
        exact .inr (by omega)
end Go.Proofs.Ytfcbapaojoecgab

namespace Go.Proofs.Ytfcbapaojoecgab
open Go.RowKit

theorem goS_long (g : List (List Int)) : ∀ (all : List Int), 8 < all.length → goS all g = false := by
  induction g with
  | nil => intro all h; simp [goS]; omega
  | cons x g ih => intro all h; rw [goS, ih _ (by rw [List.length_append]; omega), Bool.and_false]

set_option maxHeartbeats 400000 in
set_option maxRecDepth 20000 in
theorem impl_AreGroups (v : Value) (g : List (List Int)) (w : World) (h : Sl (slR intR) w v g) (hb : sumLen g ≤ 1099511627776) :
    Calls Try.prog 37 #[v] w fun e w2 => e = .returned (.bool (areGroups g)) ∧ Ext w w2 := by
  obtain ⟨A, cap, rfl, hm⟩ := h.form
  go_enter Try.func37, Try.ntmps37
  go_wp2
  go_loopw [3, 10] (fun t i wr => ∃ (k : Nat) (all : List Int), k ≤ g.length ∧ i = .int .i64 k ∧ Bld intO wr w.heap.size 3 t all [] ∧ areGroups g = goS all (g.drop k) ∧ all.length = sumLen (g.take k) ∧ all.length ≤ 8 ∧ Ext w wr) (fun _ i _ => g.length - (intOf i).toNat)
  case atStart => exact ⟨0, [], Nat.zero_le _, rfl, Bld.nil w _ _, rfl, rfl, Nat.zero_le _, Ext.refl _⟩
  case round =>
    obtain ⟨k, all, hk, rfl, hB, hgo, hlen, h8, hx⟩ := hrel
    have HG := hid hgo
    have HL := hid hlen
    clear hgo hlen
    have hsa := hB.sl
    by_cases hlt : k < g.length
    · obtain ⟨b1, off1, A1, cap1, rfl, hs1, hc1⟩ := (h.mono hx).sl hlt
      have HST := hid (goS_step all g k hlt)
      have hl63 : g[k].length ≤ 9223372036854775807 := by
        obtain ⟨_, _, _, h9⟩ := hs1.form
        exact h9
      go_wp2
      go_loop [16] (fun i => ∃ j : Nat, j ≤ g[k].length ∧ i = .int .i64 j ∧ ∀ q, q < j → grpAt all g[k] q = true) (fun i => g[k].length - (intOf i).toNat)
      case atStart => exact ⟨0, Nat.zero_le _, rfl, fun q hq => absurd hq (Nat.not_lt_zero _)⟩
      case round =>
        obtain ⟨j, hj, rfl, hz⟩ := hrel
        have HZ := hid hz
        clear hz
        by_cases hjl : j < g[k].length
        · obtain ⟨b2, off2, rfl, hi2, hc3⟩ := hs1.int hjl
          cases hin : inB g[k][j] 1 399 with
          | false =>
            go_wp2_with (go_at_call 70; refine (impl_isMember _ _).mono ?_; rintro e w2 ⟨rfl, rfl⟩; rw [hin])
            go_ret
            exact ⟨ret_bool (grp_no HG.out HST.out hjl (by rw [grpAt_eq hjl]; rw [hin]; rfl)).symm, hx⟩
          | true =>
            have HI := hid hin
            by_cases hj0 : 0 < j
            · have hjl1 : j - 1 < g[k].length := by omega
              obtain ⟨b3, off3, e3, hi3, hc4⟩ := hs1.int hjl1
              cases e3
              have hsub : ((j - 1 : Nat) : Int) = (j : Int) - 1 := by omega
              have hgd : g[k].getD (j - 1) 0 = g[k][j - 1] := getD_at hjl1
              have HGD := hid hgd
              clear hgd
              by_cases hge : g[k][j] ≤ g[k][j - 1]
              · have hge2 : decide (g[k][j - 1] < g[k][j]) = false := by simpa using hge
                have HGE := hid hge2
                clear hge2
                go_wp2_with (go_at_call 70; refine (impl_isMember _ _).mono ?_; rintro e w2 ⟨rfl, rfl⟩; rw [hin])
                go_ret
                exact ⟨ret_bool (grp_no HG.out HST.out hjl (by rw [grpAt_eq hjl]; rw [HGD.out, HGE.out, show (j == 0) = false by simp; omega]; simp)).symm, hx⟩
              · have hge2 : decide (g[k][j - 1] < g[k][j]) = true := by simpa using hge
                have hge3 : decide (g[k][j] ≤ g[k][j - 1]) = false := by simpa using hge
                have HGE := hid hge2
                clear hge2 hge
                cases hh : hasI g[k][j] all with
                | true =>
                  go_wp2_with (first | (go_at_call 70; refine (impl_isMember _ _).mono ?_; rintro e w2 ⟨rfl, rfl⟩; rw [hin]) | (go_at_call 71; refine (slices_Contains _ all _ _ hsa).mono ?_; rintro e w2 ⟨rfl, rfl⟩; rw [hh]))
                  go_ret
                  exact ⟨ret_bool (grp_no HG.out HST.out hjl (by rw [grpAt_eq hjl]; rw [hh]; simp)).symm, hx⟩
                | false =>
                  have HH := hid hh
                  go_wp2_with (first | (go_at_call 70; refine (impl_isMember _ _).mono ?_; rintro e w2 ⟨rfl, rfl⟩; rw [hin]) | (go_at_call 71; refine (slices_Contains _ all _ _ hsa).mono ?_; rintro e w2 ⟨rfl, rfl⟩; rw [hh]))
                  go_round
                  case rel => exact ⟨j + 1, by omega, by go_num, lt_succ_all HZ.out (by rw [grpAt_eq hjl]; rw [HH.out, HI.out, HGD.out, HGE.out, Bool.or_true]; rfl)⟩
                  case measure => simp [intOf]; omega
            · have hjd1 : decide (0 < j) = false := by simpa using hj0
              have hjd2 : decide ((0 : Int) < (j : Int)) = false := by simp; omega
              have HJ0 := hid (show (j == 0) = true by simp; omega)
              clear hj0
              cases hh : hasI g[k][j] all with
              | true =>
                go_wp2_with (first | (go_at_call 70; refine (impl_isMember _ _).mono ?_; rintro e w2 ⟨rfl, rfl⟩; rw [hin]) | (go_at_call 71; refine (slices_Contains _ all _ _ hsa).mono ?_; rintro e w2 ⟨rfl, rfl⟩; rw [hh]))
                go_ret
                exact ⟨ret_bool (grp_no HG.out HST.out hjl (by rw [grpAt_eq hjl]; rw [hh]; simp)).symm, hx⟩
              | false =>
                have HH := hid hh
                go_wp2_with (first | (go_at_call 70; refine (impl_isMember _ _).mono ?_; rintro e w2 ⟨rfl, rfl⟩; rw [hin]) | (go_at_call 71; refine (slices_Contains _ all _ _ hsa).mono ?_; rintro e w2 ⟨rfl, rfl⟩; rw [hh]))
                go_round
                case rel => exact ⟨j + 1, by omega, by go_num, lt_succ_all HZ.out (by rw [grpAt_eq hjl]; rw [HH.out, HI.out, HJ0.out]; rfl)⟩
                case measure => simp [intOf]; omega
        · have hat := sumLen_at g k hlt
          have hlb : all.length + g[k].length ≤ 1099511627776 := by have := HL.out; omega
          have hok : grpOk all g[k] = true := grpOk_true fun q hq => HZ.out q (by omega)
          have HOK := hid hok
          have HLS := hid (sumLen_take g k hlt)
          clear hat hok
          obtain ⟨n9, hn9⟩ : ∃ n9, n9 = (all ++ g[k]).length := ⟨_, rfl⟩
          have hn9b : n9 ≤ 1099511627776 := by rw [hn9, List.length_append]; exact hlb
          have HN9 := hid hn9
          clear hn9
          by_cases hne : g[k].length = 0
          · have hne2 : ((g[k].length : Int) == 0) = true := by simp [hne]
            have HNE := hid hne
            clear hne
            go_wp2_with (at_builtin; refine wpList_appn elemInt rfl _ _ rfl hB rfl rfl hs1 hlb hx.size ?_; intro v2 w2 hB3 hE3)
            go_ret
            exact ⟨ret_bool (by rw [HG.out, HST.out, show (g[k].length == 0) = true by simp [HNE.out]]; simp), hE3 w (Nat.le_refl _) hx⟩
          · have hne2 : ((g[k].length : Int) == 0) = false := by simp; intro e; exact hne (by rw [e]; rfl)
            have HNE := hid hne
            clear hne
            by_cases h9 : 8 < n9
            · go_wp2_with (at_builtin; refine wpList_appn elemInt rfl _ _ rfl hB rfl rfl hs1 hlb hx.size ?_; intro v2 w2 hB3 hE3; obtain ⟨A9, cap9, e9, h99⟩ := hB3.sl.form; rw [← HN9.out] at e9; subst e9)
              go_ret
              exact ⟨ret_bool (by rw [HG.out, HST.out, goS_long _ _ (HN9.out ▸ h9), Bool.and_false]), hE3 w (Nat.le_refl _) hx⟩
            · go_wp2_with (at_builtin; refine wpList_appn elemInt rfl _ _ rfl hB rfl rfl hs1 hlb hx.size ?_; intro v2 w2 hB3 hE3; obtain ⟨A9, cap9, e9, h99⟩ := hB3.sl.form; rw [← HN9.out] at e9; subst e9)
              go_roundw
              case rel => exact ⟨k + 1, all ++ g[k], by omega, by go_num, hB3, by rw [HG.out, HST.out, HOK.out, show (g[k].length == 0) = false by simpa using HNE.out]; rfl, by rw [List.length_append, HLS.out, HL.out], by rw [← HN9.out]; omega, hE3 w (Nat.le_refl _) hx⟩
              case measure => simp [intOf]; omega
    · have hgo := HG.out
      rw [List.drop_of_length_le (by omega), goS] at hgo
      have HG2 := hid hgo
      clear hgo
      go_wp2
      go_ret
      exact ⟨ret_bool (by rw [HG2.out]; exact (decide_eq_true h8).symm), hx⟩
end Go.Proofs.Ytfcbapaojoecgab

namespace Go.Proofs.Ytfcbapaojoecgab
open Go.RowKit

theorem set_mid {α : Type} (l r : List α) (x y : α) (k : Nat) (h : l.length = k) : (l ++ x :: r).set k y = l ++ y :: r := by
  subst h
  rw [List.set_append_right _ _ (Nat.le_refl _), Nat.sub_self, List.set_cons_zero]
theorem get_mid {α : Type} (l r : List α) (x : α) (k : Nat) (h : l.length = k) (hk : k < (l ++ x :: r).length) : (l ++ x :: r)[k] = x := by
  subst h
  rw [List.getElem_append_right (Nat.le_refl _)]
  simp
theorem zeros_own2 (W : World) (n : Nat) (T : TypeId) (hn : n ≤ maxLen) : OwnSl intO (W.alloc (.cells (List.replicate n (Value.int .i64 0)).toArray T)) (.slice (some ⟨W.heap.size, 0, none⟩) n n) (List.replicate n (0 : Int)) [W.heap.size] := by
  have hc : ∀ n : Nat, OwnCells intO (W.alloc (.cells (List.replicate n (Value.int .i64 0)).toArray T)) (List.replicate n (.int .i64 0)) (List.replicate n (0 : Int)) [] := by
    intro n
    generalize W.alloc (.cells (List.replicate n (Value.int .i64 0)).toArray T) = W2
    induction n with
    | zero => exact .nil
    | succ n ih =>
      simp only [List.replicate_succ]
      exact ⟨[.int .i64 0], _, [], [], rfl, rfl, ⟨⟨rfl, by unfold I64; omega⟩, rfl⟩, ih⟩
  have h := OwnSl.of_blk (R := intO) (xs := List.replicate n (0 : Int)) (F2 := []) (Blk.new W T (List.replicate n (.int .i64 0)).toArray) (by simpa using hn) (hc n)
  simpa using h

set_option maxHeartbeats 400000 in
set_option maxRecDepth 20000 in
theorem impl_overlapMatrix (v u : Value) (a b : List (List Int)) (w : World) (h : Sl (slR intR) w v a) (h2 : Sl (slR intR) w u b) (ha : a.length ≤ 8) (hb : b.length ≤ 8) :
    Calls Try.prog 43 #[v, u] w fun e w2 => ∃ v2 F, e = .returned v2 ∧ OwnSl (slO intO) w2 v2 (a.map (ovRow b)) F ∧ NewF w F ∧ Ext w w2 := by
  obtain ⟨A, cap, rfl, hm⟩ := h.form
  obtain ⟨B, cap2, rfl, hm2⟩ := h2.form
  obtain ⟨i1, hi1, hz3, hz4, hz5⟩ := info_parts infoInt
  have hmk := run_mk (P := Try.prog) 40 3 i1 _ [.int .i64 0] 8 Try.underlying40 hi1 hz3 rfl hz4 hz5 b.length (by omega) (by omega)
  rw [flat_rep] at hmk
  obtain ⟨Z, hZ⟩ : ∃ Z, Z = (List.replicate b.length (Value.int .i64 0)).toArray := ⟨_, rfl⟩
  rw [← hZ] at hmk
  have HZ := hid hZ
  clear hZ
  go_enter Try.func43, Try.ntmps43
  go_wp2
  go_loopw [5, 15] (fun t i wr => ∃ (k : Nat) (F : List Nat), k ≤ a.length ∧ i = .int .i64 k ∧ Bld (slO intO) wr w.heap.size 40 t ((a.take k).map (ovRow b)) F ∧ Ext w wr) (fun _ i _ => a.length - (intOf i).toNat)
  case atStart => exact ⟨0, [], Nat.zero_le _, rfl, by simpa using Bld.nil w _ _, Ext.refl _⟩
  case round =>
    obtain ⟨k, F, hk, rfl, hB, hx⟩ := hrel
    by_cases hlt : k < a.length
    · obtain ⟨b1, off1, A1, cap1, rfl, hs1, hc1⟩ := (h.mono hx).sl hlt
      have ho : OwnSl intO (wr.alloc (.cells Z 3)) (.slice (some ⟨wr.heap.size, 0, none⟩) b.length b.length) (List.replicate b.length 0) [wr.heap.size] := by rw [HZ.out]; exact zeros_own2 wr b.length _ (by unfold maxLen; omega)
      have HO := hid ho
      clear ho
      go_wp2
      obtain ⟨wo, hwo⟩ : ∃ wo : World, wo = wr := ⟨_, rfl⟩
      go_loopw [24] (fun i w3 => ∃ (j : Nat), j ≤ b.length ∧ i = .int .i64 j ∧ OwnSl intO w3 (.slice (some ⟨wo.heap.size, 0, none⟩) b.length b.length) (ovRow (b.take j) a[k] ++ List.replicate (b.length - j) 0) [wo.heap.size] ∧ Ext wo w3) (fun i _ => b.length - (intOf i).toNat)
      case atStart => exact ⟨0, Nat.zero_le _, rfl, by rw [hwo]; simpa [ovRow] using HO.out, by rw [hwo]; exact (Ext.refl _).alloc _⟩
      case round =>
        obtain ⟨j, hj, rfl, hB2, hx2⟩ := hrel
        rw [← hwo] at hB hx hs1 ⊢
        clear hwo HO
        have hN1 : [wo.heap.size].Nodup := by simp
        by_cases hltb : j < b.length
        · obtain ⟨b2, off2, A2, cap2', rfl, hs2, hc20⟩ := h2.sl hltb
          have hc2 := (hx.trans hx2).cell hc20
          have hst := ovRow_step b a[k] j hltb
          have HS := hid hst
          clear hst
          have hrl : (ovRow (b.take j) a[k]).length = j := by rw [ovRow_len, List.length_take]; omega
          have HR := hid hrl
          rw [show b.length - j = (b.length - (j + 1)) + 1 by omega, List.replicate_succ] at hB2
          clear hrl
          obtain ⟨L, hL⟩ : ∃ L, L = ovRow (b.take j) a[k] := ⟨_, rfl⟩
          rw [← hL] at hB2
          have HL := hid hL
          clear hL
          obtain ⟨r, hr⟩ : ∃ r, r = List.replicate (b.length - (j + 1)) (0 : Int) := ⟨_, rfl⟩
          rw [← hr] at hB2
          have HR2 := hid hr
          clear hr
          have hlen : ∀ c : Int, j < (L ++ c :: r).length := fun c => by rw [List.length_append, List.length_cons, HL.out, HR.out]; omega
          go_wp2
          go_loopw [31] (fun i w4 => ∃ n : Nat, n ≤ a[k].length ∧ i = .int .i64 n ∧ OwnSl intO w4 (.slice (some ⟨wo.heap.size, 0, none⟩) b.length b.length) (L ++ ((cntIn (a[k].take n) b[j] : Nat) : Int) :: r) [wo.heap.size] ∧ Ext wo w4) (fun i _ => a[k].length - (intOf i).toNat)
          case atStart => exact ⟨0, Nat.zero_le _, rfl, by simpa [cntIn] using hB2, hx2⟩
          case round =>
            clear hB2 hx2 hc2
            obtain ⟨n, hn, rfl, hB2, hx2⟩ := hrel
            have hle := cntIn_le (a[k].take n) b[j]
            rw [List.length_take] at hle
            have hak : a[k].length ≤ 9223372036854775807 := by
              obtain ⟨_, _, _, h9⟩ := hs1.form
              exact h9
            obtain ⟨g, off, cp, e9, hgF, hcell, hfr, hst⟩ := hB2.int_store hN1 (hlen _)
            injection e9 with e1 e2 e3
            injection e1 with e1
            injection e1 with e4 e5
            subst e4; subst e5
            clear e2 e3
            rw [get_mid L r _ j (by rw [HL.out, HR.out])] at hcell
            rw [Nat.zero_add] at hcell hfr hst
            by_cases hln : n < a[k].length
            · obtain ⟨b3, off3, rfl, hi3, hc3⟩ := (hs1.mono hx2).int hln
              have hst2 := cntIn_step a[k] b[j] n hln
              have HC := hid hst2
              clear hst2
              go_wp2_with fail
              refine (slices_Contains _ b[j] a[k][n] _ (hs2.mono (by repeat (first | with_reducible exact Ext.refl _ | with_reducible assumption | with_reducible refine Ext.drew ?_ | with_reducible refine Ext.alloc ?_ _ | with_reducible refine Ext.trans ?_ (by with_reducible assumption))))).mono ?_
              rintro e w9 ⟨rfl, rfl⟩
              cases hhas : hasI a[k][n] b[j] with
              | true =>
                have hs9 := hst (((cntIn (a[k].take n) b[j] : Nat) : Int) + 1) (by unfold I64; omega)
                rw [set_mid L r _ _ j (by rw [HL.out, HR.out])] at hs9
                have HS9 := hid hs9
                have HH := hid hhas
                clear hst hs9 hhas
                go_wp2
                go_roundw
                case rel => exact ⟨n + 1, by omega, by go_num, by rw [HC.out, HH.out, if_pos rfl, Int.natCast_add]; exact HS9.out, hx2.setCell (by simp) _⟩
                case measure => simp [intOf]; omega
              | false =>
                have HH := hid hhas
                clear hst hhas
                go_wp2
                go_roundw
                case rel => exact ⟨n + 1, by omega, by go_num, by rw [HC.out, HH.out]; exact hB2, hx2⟩
                case measure => simp [intOf]; omega
            · rw [List.take_of_length_le (by omega)] at hB2 hst hcell
              have hs9 := hst (if 100 < ((cntIn a[k] b[j] : Nat) : Int) then 100 else ((cntIn a[k] b[j] : Nat) : Int)) (by unfold I64; split <;> omega)
              rw [set_mid L r _ _ j (by rw [HL.out, HR.out])] at hs9
              have HS9 := hid hs9
              clear hst hs9
              go_wp2
              go_roundw
              case rel =>
                refine ⟨j + 1, by omega, by go_num, ?_, hx2.setCell (by simp) _⟩
                rw [HS.out, ← HL.out, ← HR2.out, show min (100 : Int) (cntIn a[k] b[j]) = if 100 < ((cntIn a[k] b[j] : Nat) : Int) then 100 else ((cntIn a[k] b[j] : Nat) : Int) by split <;> omega, List.append_assoc]
                exact HS9.out
              case measure => simp [intOf]; omega
        · rw [List.take_of_length_le (by omega), show b.length - j = 0 by omega, List.replicate_zero, List.append_nil] at hB2
          have hn : NewF wo [wo.heap.size] := ⟨by simp, by simp⟩
          have hBx := hB.ext hx2
          have hG := hB.fresh hn hx.size
          have hlen : ((a.take k).map (ovRow b)).length ≤ 8 := by rw [List.length_map, List.length_take]; omega
          go_wp2_with (at_builtin; refine wpList_app1 elemInts (by decide) rfl _ _ rfl hBx rfl wr.heap.size 1 rfl rfl (one_slice _ _ _) (y := ovRow b a[k]) ⟨_, rfl, hB2⟩ hG (by omega) (by decide) (Nat.le_trans hx.size hx2.size) ?_; intro v2 w2 hB3 hE3)
          go_roundw
          case rel => exact ⟨k + 1, _, by omega, by go_num, by rw [List.take_succ_eq_append_getElem hlt, List.map_append]; exact hB3, hE3 w (Nat.le_refl _) (hx.trans hx2)⟩
          case measure => simp [intOf]; omega
    · go_wp2
      go_ret
      rw [List.take_of_length_le (by omega)] at hB
      obtain ⟨F', d1, d2, d3⟩ := hB.done
      exact ⟨_, F', rfl, d1, ⟨d2, d3⟩, hx⟩
end Go.Proofs.Ytfcbapaojoecgab

namespace Go.Proofs.Ytfcbapaojoecgab
open Go.RowKit

set_option maxHeartbeats 400000 in
set_option maxRecDepth 20000 in
theorem spec_l25Table (v : Value) (m : List (List Int)) (w : World) (h : Sl (slR intR) w v m) (hok : okMat m = true) :
    Calls Try.prog 68 #[v] w fun e w2 => ∃ g off cap f F, e = .returned (.slice (some ⟨g, off, none⟩) (m.length + 1 : Nat) cap) ∧ OwnSl (slO intO) w2 (.slice (some ⟨g, off, none⟩) (m.length + 1) cap) (tab (m.length + 1) (2 ^ width m) f) F ∧
      (∀ j ≤ m.length, ∀ s < 2 ^ width m, f j s = bv (m.drop j) s) ∧ NewF w F ∧ Ext w w2 := by
  obtain ⟨A, cap, rfl, hm⟩ := h.form
  have hm8 := okMat_len hok
  have HM := hid hok
  have hwd8 : width m ≤ 8 := by
    by_cases h0 : 0 < m.length
    · rw [width_eq m h0]; exact (okMat_at hok h0).2.1
    · rw [List.eq_nil_of_length_eq_zero (by omega : m.length = 0)]; decide
  clear hok
  obtain ⟨i0, hi0, hz0, hz1, hz2⟩ := info_parts infoInts
  obtain ⟨i1, hi1, hz3, hz4, hz5⟩ := info_parts infoInt
  obtain ⟨N, hN⟩ : ∃ N, N = 2 ^ width m := ⟨_, rfl⟩
  have hN1 : 0 < N ∧ N ≤ 256 := by
    rw [hN]; exact ⟨Nat.pow_pos (by decide), Nat.le_trans (Nat.pow_le_pow_right (by decide) hwd8) (by decide)⟩
  have hNw : wrap64 (2 ^ width m) = (N : Int) := by rw [wrap64_pow (by omega), hN, Int.natCast_pow]; rfl
  have hmk := run_mk (P := Try.prog) 40 3 i1 _ [.int .i64 0] 8 Try.underlying40 hi1 hz3 rfl hz4 hz5 N (by omega) (by omega)
  rw [flat_rep] at hmk
  rw [← hN]
  have HN := hid hN
  clear hN
  obtain ⟨Z, hZ⟩ : ∃ Z, Z = (List.replicate N (Value.int .i64 0)).toArray := ⟨_, rfl⟩
  rw [← hZ] at hmk
  have HZ := hid hZ
  clear hZ
  obtain ⟨row, hR⟩ : ∃ row, row = List.replicate N (0 : Int) := ⟨_, rfl⟩
  have HR := hid hR
  clear hR
  by_cases h0 : 0 < m.length
  · obtain ⟨b, off, A0, cap0, rfl, hs0, hc0⟩ := h.sl h0
    rw [← width_eq m h0] at hs0 hc0
    rw [Nat.add_zero] at hc0
    go_enter Try.func68, Try.ntmps68
    go_wp2
    go_loopw [4, 5] (fun t i wr => ∃ (k : Nat) (F : List Nat), k ≤ m.length + 1 ∧ i = .int .i64 k ∧ Bld (slO intO) wr w.heap.size 40 t (List.replicate k row) F ∧ Ext w wr) (fun _ i _ => m.length + 1 - (intOf i).toNat)
    case atStart => exact ⟨0, [], by omega, rfl, Bld.lit w (Nat.le_refl _) _, (Ext.refl _).alloc _⟩
    case round =>
      obtain ⟨k, F, hk, rfl, hB, hx⟩ := hrel
      by_cases hlt : k < m.length + 1
      · have x1 : Ext wr (wr.alloc (.cells Z 3)) := (Ext.refl _).alloc _
        have ho : OwnSl intO (wr.alloc (.cells Z 3)) (.slice (some ⟨wr.heap.size, 0, none⟩) N N) row [wr.heap.size] := by rw [HZ.out, HR.out]; exact ownInts wr N _ (by unfold maxLen; omega)
        have hn : NewF wr [wr.heap.size] := ⟨by simp, by simp⟩
        have x2 : Ext wr ((wr.alloc (.cells Z 3)).alloc (.cells #[.slice (some ⟨wr.heap.size, 0, none⟩) N N] 40)) := x1.alloc _
        have hcc := cell_one_new (wr.alloc (.cells Z 3)) (.slice (some ⟨wr.heap.size, 0, none⟩) N N) 40
        have hl : (List.replicate k row).length = k := List.length_replicate
        rw [World.size_alloc] at hcc
        go_wp2_with (at_builtin; refine wpList_app rfl _ _ 23 rfl w.heap.size 40 i0 (.slice none 0 0) 24 Try.underlying23 hi0 hz0 hz1 hz2 rfl (by decide) (hB.ext x2) rfl ⟨wr.heap.size + 1, 0, none⟩ 1 rfl hcc (by simp [Value.oneCell']) (y := row) ⟨_, rfl, ho.ext ((Ext.refl _).alloc _)⟩ (hB.fresh hn hx.size) (by rw [hl]; unfold maxLen; omega) (by rw [hl]; omega) (Nat.le_trans hx.size x2.size) ?_; intro v2 w2 hB2 hE2)
        go_roundw
        case rel => exact ⟨k + 1, _, by omega, by go_num, by rw [List.replicate_succ']; exact hB2, hE2 w (Nat.le_refl _) (hx.trans x2)⟩
        case measure => simp [intOf]; omega
      · have hkk : k = m.length + 1 := by omega
        rw [hkk, HR.out, tab_zero] at hB
        obtain ⟨G, hT, hN3, hN4⟩ := hB.done
        have hNF : NewF w G := ⟨hN3, hN4⟩
        clear hN3 hN4 hB
        rcases hT with ⟨h9, _⟩ | hT9
        · have := congrArg List.length h9
          rw [tab_len] at this
          simp at this
        have hT : OwnSl (slO intO) wr _ _ _ := .inr hT9
        obtain ⟨g, off, capt, _, _, _, rfl, _⟩ := hT9
        rw [tab_len] at hT
        rw [tab_len]
        go_wp2
        go_loopw [6] (fun i w2 => ∃ (k : Nat) (f : Nat → Nat → Int), k ≤ m.length ∧ i = .int .i64 ((k : Int) - 1) ∧ OwnSl (slO intO) w2 (.slice (some ⟨g, off, none⟩) (m.length + 1) capt) (tab (m.length + 1) N f) G ∧
          (∀ j, k ≤ j → j ≤ m.length → ∀ s < N, f j s = bv (m.drop j) s) ∧ Ext w w2) (fun i _ => (intOf i + 1).toNat)
        case atStart => exact ⟨m.length, _, Nat.le_refl _, rfl, hT, fun j h1 h2 s _ => by rw [show j = m.length by omega, bv_end], hx⟩
        case round =>
          obtain ⟨k1, f, hk1, rfl, hT, hf, hx1⟩ := hrel
          cases k1 with
          | zero =>
            go_wp2
            go_ret
            exact ⟨_, _, _, f, G, by simp, hT, fun j hj => hf j (Nat.zero_le _) hj, hNF, hx1⟩
          | succ p =>
            have hp1 : ((p + 1 : Nat) : Int) - 1 = (p : Int) := by omega
            rw [hp1]
            clear hp1
            go_wp2
            go_loopw [7] (fun i w2 => ∃ (s : Nat) (f : Nat → Nat → Int), s ≤ N ∧ i = .int .i64 s ∧ OwnSl (slO intO) w2 (.slice (some ⟨g, off, none⟩) (m.length + 1) capt) (tab (m.length + 1) N f) G ∧
              (∀ j, p + 1 ≤ j → j ≤ m.length → ∀ s < N, f j s = bv (m.drop j) s) ∧ (∀ u < s, f p u = bv (m.drop p) u) ∧ Ext w w2) (fun i _ => N - (intOf i).toNat)
            case atStart => exact ⟨0, f, by omega, rfl, hT, hf, fun u hu => by omega, hx1⟩
            case round =>
              clear hT hx1 hf
              obtain ⟨s, f, hs, rfl, hT, hf, hfp, hx1⟩ := hrel
              by_cases hlt : s < N
              · obtain ⟨b1, o1, c1, hc1, _, _, hc2, _, _⟩ := tab_at hT hNF.1 (show p + 1 < m.length + 1 by omega) hlt
                have hfs := hf (p + 1) (by omega) (by omega) s hlt
                have HFS := hid hfs
                have HF := hid hf
                have HP := hid hfp
                clear hf hfp hfs
                go_wp2
                obtain ⟨b2, off2, A2, cap2, e2, hsl, hc3⟩ := h.sl (show p < m.length by omega)
                cases e2
                have HR2 := bv_step m p (by omega) s
                have HB := okMat_at HM.out (show p < m.length by omega)
                have hbb := bv_bd (m.drop (p + 1)) s (fun r hr => (okMat_mem HM.out (List.mem_of_mem_drop hr)))
                rw [List.length_drop] at hbb
                obtain ⟨wo, hwo⟩ : ∃ wo : World, wo = wr := ⟨_, rfl⟩
                rw [← hwo] at hT hx1
                go_loopw [8, 9] (fun bb i w2 => ∃ (c : Nat), c ≤ m[p].length ∧ i = .int .i64 c ∧ bb = .int .i64 (bvRow (bv (m.drop (p + 1))) s 0 (m[p].take c) (bv (m.drop (p + 1)) s)) ∧ Ext wo w2) (fun _ i _ => m[p].length - (intOf i).toNat)
                case atStart => exact ⟨0, Nat.zero_le _, rfl, by rw [HFS.out]; rfl, Ext.of_eq hwo⟩
                case round =>
                  clear hwo hc1 hc2
                  obtain ⟨c, hc, rfl, rfl, hx2⟩ := hrel
                  have hw9 := HB.1
                  by_cases hcl : c < m[p].length
                  · have hcw : c < width m := by omega
                    obtain ⟨b3, off3, rfl, hi3, hc5⟩ := (hsl.mono (hx1.trans hx2)).int hcl
                    have hc4 := (hx1.trans hx2).cell hc3
                    have hbt := bit_test (s := s) (c := c) (by omega)
                    have hvb := HB.2.2 _ (List.getElem_mem hcl)
                    have hc8 : c < 8 := by have := HB.2.1; omega
                    have hlc : (m[p].take c).length = c := by rw [List.length_take]; omega
                    have hsn := bvRow_snoc (bv (m.drop (p + 1))) s (m[p].take c) 0 (bv (m.drop (p + 1)) s) m[p][c]
                    rw [← List.take_succ_eq_append_getElem hcl, hlc, Nat.zero_add] at hsn
                    have HS := hid hsn
                    have HC := hid hlc
                    have HW9 := hid hw9
                    clear hsn hlc hw9
                    cases hbit : s.testBit c with
                    | true =>
                      rw [hbit, Bool.not_true] at hbt
                      have HV := hid hbit
                      clear hbit
                      go_wp2
                      go_roundw
                      case rel => exact ⟨c + 1, by omega, by go_num, by rw [HS.out, if_neg]; rw [HV.out]; simp, hx2⟩
                      case measure => simp [intOf]; omega
                    | false =>
                      rw [hbit, Bool.not_false] at hbt
                      have HV := hid hbit
                      clear hbit
                      by_cases hv : 0 < m[p][c]
                      · have hls : s ||| 1 <<< c < N := by rw [HN.out]; exact bit_set_lt (by rw [← HN.out]; exact hlt) hcw
                        have hor := bit_setw (s := s) (c := c) (by omega) (by omega)
                        obtain ⟨t, ht⟩ : ∃ t, t = s ||| 1 <<< c := ⟨_, rfl⟩
                        rw [← ht] at hls hor
                        have HT := hid ht
                        clear ht
                        have hcz4 : ∀ z : ExtOf wr, z.1.cell? ⟨b, _, none⟩ = _ := fun z => z.2.cell hc4
                        have hcz5 : ∀ z : ExtOf wr, z.1.cell? ⟨b3, off3 + c, none⟩ = _ := fun z => z.2.cell hc5
                        obtain ⟨b', o2', c2', hc6, _, _, hc7, _, _⟩ := tab_at (hT.ext hx2) hNF.1 (show p + 1 < m.length + 1 by omega) hls
                        have hcz6 : ∀ z : ExtOf wr, z.1.cell? ⟨g, off + (p + 1), none⟩ = _ := fun z => z.2.cell hc6
                        have hcz7 : ∀ z : ExtOf wr, z.1.cell? ⟨b', o2' + t, none⟩ = _ := fun z => z.2.cell hc7
                        have h1 := bv_bd (m.drop (p + 1)) t (fun r hr => (okMat_mem HM.out (List.mem_of_mem_drop hr)))
                        rw [← HF.out (p + 1) (by omega) (by omega) t hls, List.length_drop] at h1
                        obtain ⟨acc, hacc⟩ : ∃ acc, acc = bvRow (bv (m.drop (p + 1))) s 0 (m[p].take c) (bv (m.drop (p + 1)) s) := ⟨_, rfl⟩
                        rw [← hacc]
                        have HA := hid hacc
                        clear hacc
                        go_wp2_with fail
                        refine wp_region_ext (by kernel_rfl) (by kernel_rfl) ?_
                        repeat (go_big_quiet_step ((fail)))
                        refine wpQuiet_nil ?_
                        rintro w3 ⟨⟨_, x3⟩, rfl⟩
                        go_wp2
                        go_roundw
                        case rel =>
                          refine ⟨c + 1, by omega, by go_num, ?_, hx2.trans x3⟩
                          rw [HS.out, if_pos (And.intro hv HV.out), ← HA.out, ← HT.out, ← HF.out (p + 1) (by omega) (by omega) t hls, Int.max_def]
                          congr 1
                          split <;> split <;> omega
                        case measure => simp [intOf]; omega
                      · go_wp2
                        go_roundw
                        case rel => exact ⟨c + 1, by omega, by go_num, by rw [HS.out, if_neg (fun e => hv e.1)], hx2⟩
                        case measure => simp [intOf]; omega
                  · have hcw : ¬ c < width m := by omega
                    rw [List.take_of_length_le (show m[p].length ≤ c by omega), ← HR2]
                    clear HR2
                    obtain ⟨b8, o8, c8, hc8, hbG, _, _, hfr, hst⟩ := tab_at (hT.ext hx2) hNF.1 (show p < m.length + 1 by omega) hlt
                    have hI : I64 (bv (m.drop p) s) := by have := bv_bd (m.drop p) s (fun r hr => (okMat_mem HM.out (List.mem_of_mem_drop hr))); have := List.length_drop (i := p) (l := m); unfold I64; omega
                    have hT8 := hst _ hI
                    have HT8 := hid hT8
                    clear hT8 hst
                    go_wp2
                    go_roundw
                    case rel =>
                      refine ⟨s + 1, _, by omega, by go_num, HT8.out, fun j h1 h2 u hu => ?_, fun u hu => ?_, (hx1.trans hx2).setCell (hNF.2 b8 hbG) _⟩
                      · rw [upd_other _ _ (by omega)]; exact HF.out j h1 h2 u hu
                      · by_cases h9 : u = s
                        · rw [h9, upd_same]
                        · rw [upd_other _ _ (by omega)]; exact HP.out u (by omega)
                    case measure => simp [intOf]; omega
              · go_wp2
                go_roundw
                case rel => exact ⟨p, f, by omega, rfl, hT, fun j h1 h2 u hu => by
                  rcases Nat.lt_or_ge p j with h9 | h9
                  · exact hf j h9 h2 u hu
                  · rw [show j = p by omega]; exact hfp u (by omega), hx1⟩
                case measure => simp [intOf]
  · have hm0 : m = [] := List.eq_nil_of_length_eq_zero (by omega)
    have hN9 : N = 1 := by rw [HN.out, hm0]; rfl
    have HM0 := hid hm0
    clear hm0 hN1 hNw
    subst hN9
    have hl0 : m.length = 0 := by omega
    rw [show ((1 : Nat) : Int) = 1 from rfl] at hmk
    rw [hl0]
    clear h0
    simp only [hl0] at h hm hm8
    go_enter Try.func68, Try.ntmps68
    go_wp2
    go_loopw [4, 5] (fun t i wr => ∃ (k : Nat) (F : List Nat), k ≤ 1 ∧ i = .int .i64 k ∧ Bld (slO intO) wr w.heap.size 40 t (List.replicate k row) F ∧ Ext w wr) (fun _ i _ => 1 - (intOf i).toNat)
    case atStart => exact ⟨0, [], by omega, rfl, Bld.lit w (Nat.le_refl _) _, (Ext.refl _).alloc _⟩
    case round =>
      obtain ⟨k, F, hk, rfl, hB, hx⟩ := hrel
      by_cases hlt : k < 1
      · have x1 : Ext wr (wr.alloc (.cells Z 3)) := (Ext.refl _).alloc _
        have ho : OwnSl intO (wr.alloc (.cells Z 3)) (.slice (some ⟨wr.heap.size, 0, none⟩) 1 1) row [wr.heap.size] := by rw [HZ.out, HR.out]; exact ownInts wr 1 _ (by unfold maxLen; omega)
        have hn : NewF wr [wr.heap.size] := ⟨by simp, by simp⟩
        have x2 : Ext wr ((wr.alloc (.cells Z 3)).alloc (.cells #[.slice (some ⟨wr.heap.size, 0, none⟩) 1 1] 40)) := x1.alloc _
        have hcc := cell_one_new (wr.alloc (.cells Z 3)) (.slice (some ⟨wr.heap.size, 0, none⟩) 1 1) 40
        have hl : (List.replicate k row).length = k := List.length_replicate
        rw [World.size_alloc] at hcc
        go_wp2_with (at_builtin; refine wpList_app rfl _ _ 23 rfl w.heap.size 40 i0 (.slice none 0 0) 24 Try.underlying23 hi0 hz0 hz1 hz2 rfl (by decide) (hB.ext x2) rfl ⟨wr.heap.size + 1, 0, none⟩ 1 rfl hcc (by simp [Value.oneCell']) (y := row) ⟨_, rfl, ho.ext ((Ext.refl _).alloc _)⟩ (hB.fresh hn hx.size) (by rw [hl]; unfold maxLen; omega) (by rw [hl]; omega) (Nat.le_trans hx.size x2.size) ?_; intro v2 w2 hB2 hE2)
        go_roundw
        case rel => exact ⟨k + 1, _, by omega, by go_num, by rw [List.replicate_succ']; exact hB2, hE2 w (Nat.le_refl _) (hx.trans x2)⟩
        case measure => simp [intOf]; omega
      · have hkk : k = 0 + 1 := by omega
        rw [hkk, HR.out, tab_zero] at hB
        obtain ⟨G, hT, hN3, hN4⟩ := hB.done
        have hNF : NewF w G := ⟨hN3, hN4⟩
        clear hN3 hN4 hB
        rcases hT with ⟨h9, _⟩ | hT9
        · have := congrArg List.length h9
          rw [tab_len] at this
          simp at this
        have hT : OwnSl (slO intO) wr _ _ _ := .inr hT9
        obtain ⟨g, off, capt, _, _, _, rfl, _⟩ := hT9
        rw [tab_len] at hT
        rw [tab_len]
        go_wp2
        go_loopw [6] (fun i w2 => i = .int .i64 (-1) ∧ w2 = wr) (fun _ _ => 0)
        case atStart => exact ⟨rfl, rfl⟩
        case round =>
          obtain ⟨rfl, rfl⟩ := hrel
          go_wp2
          go_ret
          exact ⟨_, _, _, _, G, rfl, hT, fun j hj s _ => by rw [HM0.out, List.drop_nil, bv], hNF, hx⟩
end Go.Proofs.Ytfcbapaojoecgab

namespace Go.Proofs.Ytfcbapaojoecgab
open Go.RowKit

/-- the first of the numbers j, .., j + c - 1 that meets p -/
def ff (p : Nat → Bool) : Nat → Nat → Int
  | _, 0 => -1
  | j, c + 1 => if p j then (j : Int) else ff p (j + 1) c
theorem ff_bd (p : Nat → Bool) : ∀ (c j : Nat), -1 ≤ ff p j c ∧ ff p j c < (j + c : Nat)
  | 0, j => by simp only [ff]; omega
  | c + 1, j => by
    have := ff_bd p c (j + 1)
    simp only [ff]
    split <;> omega
def pickP (r : List Int) (next : Nat → Int) (cur : Int) (t k : Nat) : Bool := decide (0 < r.getD k 0) && !t.testBit k && decide (r.getD k 0 + next (t ||| 1 <<< k) = cur)
def pickOf (r : List Int) (rs : List (List Int)) (t : Nat) : Int := ff (pickP r (bv rs) (bv (r :: rs) t) t) 0 r.length
def takeBit (t : Nat) (c : Int) : Nat := if 0 ≤ c then t ||| 1 <<< c.toNat else t
def asgFrom : List (List Int) → Nat → List Int
  | [], _ => []
  | r :: rs, t => pickOf r rs t :: asgFrom rs (takeBit t (pickOf r rs t))
def bestAsg (m : List (List Int)) : List Int := if okMat m then asgFrom m 0 else []
theorem asgFrom_len : ∀ (m : List (List Int)) (t : Nat), (asgFrom m t).length = m.length
  | [], _ => rfl
  | r :: rs, t => by simp only [asgFrom, List.length_cons, asgFrom_len rs]
theorem takeBit_lt {t n : Nat} {c : Int} (ht : t < 2 ^ n) (hc : c < n) : takeBit t c < 2 ^ n := by
  unfold takeBit
  split
  · exact bit_set_lt ht (by omega)
  · exact ht
theorem bv_cons (m : List (List Int)) (k : Nat) (h : k < m.length) (t : Nat) : bv (m.drop k) t = bv (m[k] :: m.drop (k + 1)) t := by rw [List.drop_eq_getElem_cons h]

set_option maxHeartbeats 400000 in
set_option maxRecDepth 20000 in
theorem spec_BestAssignment (v : Value) (m : List (List Int)) (w : World) (h : Sl (slR intR) w v m) :
    Calls Try.prog 31 #[v] w fun e w2 => ∃ v2 F, e = .returned v2 ∧ OwnSl intO w2 v2 (bestAsg m) F ∧ NewF w F ∧ Ext w w2 := by
  obtain ⟨A, cap, rfl, hm⟩ := h.form
  have x0 : Ext w (w.alloc (.cells #[] 3)) := (Ext.refl _).alloc _
  by_cases hok : okMat m = true
  · have hb : bestAsg m = asgFrom m 0 := by unfold bestAsg; rw [if_pos hok]
    rw [hb]
    clear hb
    have hm8 := okMat_len hok
    have HM := hid hok
    go_enter Try.func31, Try.ntmps31
    go_wp2_with fail
    refine (spec_IsOverlapMatrix _ m _ (h.mono x0)).mono ?_
    rintro e w1 ⟨rfl, x1⟩
    rw [hok]
    go_wp2_with fail
    refine (spec_l25Table _ m _ (h.mono (x0.trans x1)) hok).mono ?_
    rintro e w2 ⟨g, off, cap2, f, F, rfl, hT, hf, hNF, x2⟩
    clear hok
    obtain ⟨N, hN⟩ : ∃ N, N = 2 ^ width m := ⟨_, rfl⟩
    rw [← hN] at hT hf
    have HN := hid hN
    have HF := hid hf
    clear hN hf
    go_wp2
    go_loopw [3, 5, 6] (fun out t i wr => ∃ (k s : Nat) (done : List Int), k ≤ m.length ∧ i = .int .i64 k ∧ t = .int .i64 s ∧ s < N ∧ asgFrom m 0 = done ++ asgFrom (m.drop k) s ∧ done.length = k ∧ Bld intO wr w.heap.size 3 out done [] ∧ Ext w wr ∧ OwnSl (slO intO) wr (.slice (some ⟨g, off, none⟩) (m.length + 1) cap2) (tab (m.length + 1) N f) F ∧ ∀ b ∈ F, out.ownBlock ≠ some b) (fun _ _ i _ => m.length - (intOf i).toNat)
    case atStart => exact ⟨0, 0, [], Nat.zero_le _, rfl, rfl, by rw [HN.out]; exact Nat.pow_pos (by decide), rfl, rfl, ((Bld.lit w (Nat.le_refl _) _).ext (x1.trans x2)), (x0.trans x1).trans x2, hT, fun b hb e => by injection e with e; have e : w.heap.size = b := e; have := hNF.2 b hb; have := x1.size; simp only [World.size_alloc] at this; omega⟩
    case round =>
      obtain ⟨k, s, done, hk, rfl, rfl, hs, hd, hdl, hB, hx, hT, hoF⟩ := hrel
      have HD := hid hd
      have HDL := hid hdl
      clear hd hdl
      by_cases hlt : k < m.length
      · obtain ⟨b1, off1, A1, cap1, e1, hs1, hc10⟩ := h.sl hlt
        cases e1
        have hc1 := hx.cell hc10
        have HB := hid (okMat_at HM.out hlt)
        have hlk8 : m[k].length ≤ 8 := HB.out.2.1
        have hsb := bv_bd (m.drop k) s (fun r hr => (okMat_mem HM.out (List.mem_of_mem_drop hr)))
        have hcur : f k s = bv (m[k] :: m.drop (k + 1)) s := by rw [HF.out k (by omega) s hs, bv_cons m k hlt]
        obtain ⟨P, hP⟩ : ∃ P, P = pickP m[k] (bv (m.drop (k + 1))) (bv (m[k] :: m.drop (k + 1)) s) s := ⟨_, rfl⟩
        have HP := hid hP
        have HCU := hid hcur
        clear hP hcur
        go_wp2
        clear hc1
        obtain ⟨wo, hwo⟩ : ∃ wo : World, wo = wr := ⟨_, rfl⟩
        go_loopw [7, 8] (fun p i w3 => ∃ q : Nat, q ≤ m[k].length ∧ i = .int .i64 ((q : Int) - 1) ∧ p = .int .i64 (ff P q (m[k].length - q)) ∧ Ext wo w3) (fun _ i _ => (intOf i + 1).toNat)
        case atStart => exact ⟨m[k].length, Nat.le_refl _, rfl, by rw [Nat.sub_self]; rfl, Ext.of_eq hwo⟩
        case round =>
          obtain ⟨q, hq, rfl, rfl, hx3⟩ := hrel
          rw [← hwo] at hB hx hT
          clear hwo
          cases q with
          | zero =>
            have hbd := ff_bd P m[k].length 0
            have hpk : pickOf m[k] (m.drop (k + 1)) s = ff P 0 m[k].length := by rw [HP.out]; rfl
            have hdr : asgFrom (m.drop k) s = pickOf m[k] (m.drop (k + 1)) s :: asgFrom (m.drop (k + 1)) (takeBit s (pickOf m[k] (m.drop (k + 1)) s)) := by rw [List.drop_eq_getElem_cons hlt, asgFrom]
            rw [hpk] at hdr
            rw [Nat.sub_zero]
            have hwl : m[k].length = width m := HB.out.1
            rw [Nat.zero_add] at hbd
            have HWL := hid hwl
            obtain ⟨c, hc⟩ : ∃ c, c = ff P 0 m[k].length := ⟨_, rfl⟩
            rw [← hc] at hbd hdr ⊢
            have htb := takeBit_lt (t := s) (n := width m) (c := c) (by rw [← HN.out]; exact hs) (by omega)
            rw [← HN.out] at htb
            have HTB := hid htb
            have HDR := hid hdr
            have hI : I64 c := by unfold I64; omega
            clear hc hdr hpk htb hwl
            have hBx := hB.ext hx3
            have hT3 := hT.ext hx3
            have hdn : done.length ≤ 8 := by have := HDL.out; omega
            have hN8 : N ≤ 256 := by rw [HN.out]; exact Nat.le_trans (Nat.pow_le_pow_right (by decide) (show width m ≤ 8 by rw [← HWL.out]; exact HB.out.2.1)) (by decide)
            by_cases hc0 : 0 ≤ c
            · obtain ⟨q, rfl⟩ : ∃ q : Nat, c = (q : Int) := ⟨c.toNat, by omega⟩
              have hor := bit_setw (s := s) (c := q) (by omega) (by omega)
              have htk : takeBit s (q : Int) = s ||| 1 <<< q := by unfold takeBit; rw [if_pos (by omega)]; rfl
              rw [← htk] at hor
              have HTK := hid htk
              clear htk
              go_wp2_with (at_builtin; refine wpList_app1k elemInt (by decide) rfl _ _ rfl hBx rfl wr.heap.size 1 rfl rfl (one_int _) (own_int _ _ hI) fresh_nil (by omega) (by decide) (Nat.le_trans hx.size hx3.size) ?_; intro v2 w4 hB3 hE3 hK3)
              go_roundw
              case rel => exact ⟨k + 1, takeBit s q, done ++ [(q : Int)], by omega, by go_num, by first | rfl | (rw [← hor]), HTB.out, by rw [HD.out, HDR.out, List.append_assoc]; rfl, by rw [List.length_append, HDL.out]; rfl, hB3, hE3 w (Nat.le_refl _) (hx.trans hx3), hT3.keep (hK3 F hT3.lt hoF).1, (hK3 F hT3.lt hoF).2⟩
              case measure => simp [intOf]; omega
            · have htk : takeBit s c = s := by unfold takeBit; rw [if_neg hc0]
              have HTK := hid htk
              clear htk
              go_wp2_with (at_builtin; refine wpList_app1k elemInt (by decide) rfl _ _ rfl hBx rfl wr.heap.size 1 rfl rfl (one_int _) (own_int _ _ hI) fresh_nil (by omega) (by decide) (Nat.le_trans hx.size hx3.size) ?_; intro v2 w4 hB3 hE3 hK3)
              go_roundw
              case rel => exact ⟨k + 1, s, done ++ [c], by omega, by go_num, rfl, hs, by rw [HD.out, HDR.out, HTK.out, List.append_assoc]; rfl, by rw [List.length_append, HDL.out]; rfl, hB3, hE3 w (Nat.le_refl _) (hx.trans hx3), hT3.keep (hK3 F hT3.lt hoF).1, (hK3 F hT3.lt hoF).2⟩
              case measure => simp [intOf]; omega
          | succ j =>
            have hj1 : ((j + 1 : Nat) : Int) - 1 = (j : Int) := by omega
            rw [hj1]
            clear hj1
            have hjl : j < m[k].length := by omega
            have hjw : j < width m := by rw [← HB.out.1]; exact hjl
            have hj8 : j < 8 := by have := HB.out.2.1; omega
            have hN8 : N ≤ 256 := by rw [HN.out]; exact Nat.le_trans (Nat.pow_le_pow_right (by decide) (show width m ≤ 8 by rw [← HB.out.1]; exact HB.out.2.1)) (by decide)
            obtain ⟨b2, off2, rfl, hi2, hc20⟩ := hs1.int hjl
            have hc1 := (hx.trans hx3).cell hc10
            have hc2 := (hx.trans hx3).cell hc20
            have hcz1 : ∀ z : ExtOf wr, z.1.cell? ⟨b1, _, none⟩ = _ := fun z => z.2.cell hc1
            have hcz2 : ∀ z : ExtOf wr, z.1.cell? ⟨b2, off2 + j, none⟩ = _ := fun z => z.2.cell hc2
            have hbt := bit_test (s := s) (c := j) (by omega)
            have hvb := HB.out.2.2 _ (List.getElem_mem hjl)
            have hls : s ||| 1 <<< j < N := by rw [HN.out]; exact bit_set_lt (by rw [← HN.out]; exact hs) hjw
            have hor := bit_setw (s := s) (c := j) (by omega) (by omega)
            have hpj : P j = (decide (0 < m[k][j]) && !s.testBit j && decide (m[k][j] + f (k + 1) (s ||| 1 <<< j) = f k s)) := by
              rw [HP.out, HCU.out, HF.out (k + 1) (by omega) _ hls, pickP, getD_at hjl]
            have hff : ff P j (m[k].length - j) = if P j then (j : Int) else ff P (j + 1) (m[k].length - (j + 1)) := by
              rw [show m[k].length - j = (m[k].length - (j + 1)) + 1 by omega, ff]
            obtain ⟨t, ht⟩ : ∃ t, t = s ||| 1 <<< j := ⟨_, rfl⟩
            rw [← ht] at hls hor hpj
            obtain ⟨b3, o3, c3, hc3, _, _, hc4, _, _⟩ := tab_at (hT.ext hx3) hNF.1 (show k + 1 < m.length + 1 by omega) hls
            obtain ⟨b4, o4, c4, hc5, _, _, hc6, _, _⟩ := tab_at (hT.ext hx3) hNF.1 (show k < m.length + 1 by omega) hs
            have hcz3 : ∀ z : ExtOf wr, z.1.cell? ⟨g, off + (k + 1), none⟩ = _ := fun z => z.2.cell hc3
            have hcz4 : ∀ z : ExtOf wr, z.1.cell? ⟨b3, o3 + t, none⟩ = _ := fun z => z.2.cell hc4
            have hcz5 : ∀ z : ExtOf wr, z.1.cell? ⟨g, off + k, none⟩ = _ := fun z => z.2.cell hc5
            have hcz6 : ∀ z : ExtOf wr, z.1.cell? ⟨b4, o4 + s, none⟩ = _ := fun z => z.2.cell hc6
            have h1 := bv_bd (m.drop (k + 1)) t (fun r hr => (okMat_mem HM.out (List.mem_of_mem_drop hr)))
            rw [← HF.out (k + 1) (by omega) t hls, List.length_drop] at h1
            generalize ff P (j + 1) (m[k].length - (j + 1)) = L at hff ⊢
            have HFF := hid hff
            have HPJ := hid hpj
            clear hff hpj ht hc1 hc2 hc3 hc4 hc5 hc6
            cases hbit : s.testBit j with
            | true =>
              rw [hbit, Bool.not_true] at hbt
              have HV := hid hbit
              clear hbit
              go_wp2_with fail
              refine wp_region_ext (by kernel_rfl) (by kernel_rfl) ?_
              repeat (go_big_quiet_step ((fail)))
              refine wpQuiet_nil ?_
              rintro w4 ⟨⟨_, x4⟩, rfl⟩
              go_wp2
              go_roundw
              case rel => exact ⟨j, by omega, by go_num, by rw [HFF.out, HPJ.out, HV.out]; simp, hx3.trans x4⟩
              case measure => simp [intOf]
            | false =>
              rw [hbit, Bool.not_false] at hbt
              have HV := hid hbit
              clear hbit
              by_cases hv : 0 < m[k][j]
              · by_cases hsum : m[k][j] + f (k + 1) t = f k s
                · have hsb2 : (m[k][j] + f (k + 1) t == f k s) = true := by simp [hsum]
                  have HSU := hid hsum
                  clear hsum
                  go_wp2_with fail
                  refine wp_region_ext (by kernel_rfl) (by kernel_rfl) ?_
                  repeat (go_big_quiet_step ((fail)))
                  refine wpQuiet_nil ?_
                  rintro w4 ⟨⟨_, x4⟩, rfl⟩
                  go_wp2
                  go_roundw
                  case rel => exact ⟨j, by omega, by go_num, by rw [HFF.out, HPJ.out, HV.out, HSU.out]; simp [hv], hx3.trans x4⟩
                  case measure => simp [intOf]
                · have hsb2 : (m[k][j] + f (k + 1) t == f k s) = false := by simp [hsum]
                  have HSU := hid hsum
                  clear hsum
                  go_wp2_with fail
                  refine wp_region_ext (by kernel_rfl) (by kernel_rfl) ?_
                  repeat (go_big_quiet_step ((fail)))
                  refine wpQuiet_nil ?_
                  rintro w4 ⟨⟨_, x4⟩, rfl⟩
                  go_wp2
                  go_roundw
                  case rel => exact ⟨j, by omega, by go_num, by rw [HFF.out, HPJ.out, HV.out, decide_eq_false HSU.out]; simp, hx3.trans x4⟩
                  case measure => simp [intOf]
              · have hvd : decide (0 < m[k][j]) = false := by simpa using hv
                have hv9 := hid hv
                clear hv
                go_wp2_with fail
                refine wp_region_ext (by kernel_rfl) (by kernel_rfl) ?_
                repeat (go_big_quiet_step ((fail)))
                refine wpQuiet_nil ?_
                rintro w4 ⟨⟨_, x4⟩, rfl⟩
                go_wp2
                go_roundw
                case rel => exact ⟨j, by omega, by go_num, by rw [HFF.out, HPJ.out, hvd]; simp, hx3.trans x4⟩
                case measure => simp [intOf]
      · go_wp2
        go_ret
        obtain ⟨F', d1, d2, d3⟩ := hB.done
        refine ⟨_, F', rfl, ?_, ⟨d2, d3⟩, hx⟩
        rw [HD.out, List.drop_of_length_le (by omega), asgFrom, List.append_nil]
        exact d1
  · have hok' : okMat m = false := by simpa using hok
    have hb : bestAsg m = [] := by unfold bestAsg; rw [if_neg hok]
    rw [hb]
    clear hb hok
    go_enter Try.func31, Try.ntmps31
    go_wp2_with fail
    refine (spec_IsOverlapMatrix _ m _ (h.mono x0)).mono ?_
    rintro e w1 ⟨rfl, x1⟩
    rw [hok']
    clear hok'
    go_wp2
    go_ret
    obtain ⟨F', d1, d2, d3⟩ := ((Bld.lit (R := intO) w (Nat.le_refl _) 3).ext x1).done
    exact ⟨_, F', rfl, d1, ⟨d2, d3⟩, x0.trans x1⟩
end Go.Proofs.Ytfcbapaojoecgab

namespace Go.Proofs.Ytfcbapaojoecgab
open Go.RowKit

noncomputable def bestVal (m : List (List Int)) : Int := if okMat m then bv m 0 else -1

end Go.Proofs.Ytfcbapaojoecgab

namespace Go.Proofs.Ytfcbapaojoecgab
open Go.RowKit

def upTo (n : Nat) : List Int := (List.range n).map fun (k : Nat) => (k : Int)
theorem upTo_len (n : Nat) : (upTo n).length = n := by simp [upTo]
theorem upTo_succ (n : Nat) : upTo (n + 1) = upTo n ++ [(n : Int)] := by simp [upTo, List.range_succ]
theorem idxF_ff (p : Int → Bool) (q : Nat → Bool) : ∀ (c j : Nat), (∀ k, j ≤ k → k < j + c → p (k : Int) = q k) → idxF p j ((List.range' j c).map fun (k : Nat) => (k : Int)) = ff q j c
  | 0, j, _ => rfl
  | c + 1, j, h => by
    rw [List.range'_succ, List.map_cons, idxF, ff, h j (Nat.le_refl _) (by omega), idxF_ff p q c (j + 1) fun k h1 h2 => h k (by omega) (by omega)]
theorem idxF_upTo (p : Int → Bool) (q : Nat → Bool) (n : Nat) (h : ∀ k, k < n → p (k : Int) = q k) : idxF p 0 (upTo n) = ff q 0 n := by
  have := idxF_ff p q n 0 fun k _ h2 => h k (by omega)
  rw [← this, upTo, List.range_eq_range']

set_option maxHeartbeats 400000 in
theorem impl_allItems (n : Nat) (w : World) (hn : n ≤ 8) :
    Calls Try.prog 76 #[.int .i64 n] w fun e w2 => ∃ v F, e = .returned v ∧ OwnSl intO w2 v (upTo n) F ∧ NewF w F ∧ Ext w w2 := by
  go_enter Try.func76, Try.ntmps76
  go_wp2
  go_loopw [3, 6] (fun out i wr => ∃ k : Nat, k ≤ n ∧ i = .int .i64 k ∧ Bld intO wr w.heap.size 3 out (upTo k) [] ∧ Ext w wr) (fun _ i _ => n - (intOf i).toNat)
  case atStart => exact ⟨0, Nat.zero_le _, rfl, Bld.nil w _ _, Ext.refl _⟩
  case round =>
    obtain ⟨k, hk, rfl, hB, hx⟩ := hrel
    by_cases hlt : k < n
    · have hl := upTo_len k
      go_wp2_with (at_builtin; refine wpList_app1 elemInt (by decide) rfl _ _ rfl hB rfl wr.heap.size 1 rfl rfl (one_int _) (own_int _ _ (by unfold I64; omega)) fresh_nil (by omega) (by decide) hx.size ?_; intro v2 w4 hB3 hE3)
      go_roundw
      case rel => exact ⟨k + 1, by omega, by go_num, by rw [upTo_succ]; exact hB3, hE3 w (Nat.le_refl _) hx⟩
      case measure => simp [intOf]; omega
    · go_wp2
      go_ret
      obtain ⟨F', d1, d2, d3⟩ := hB.done
      rw [show k = n by omega] at d1
      exact ⟨_, F', rfl, d1, ⟨d2, d3⟩, hx⟩
end Go.Proofs.Ytfcbapaojoecgab
