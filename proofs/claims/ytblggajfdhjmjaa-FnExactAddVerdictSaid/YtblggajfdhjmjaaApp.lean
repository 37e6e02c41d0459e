/-
  PLAIN LAWS, OF NO PROGRAM: append to a slice of the call's own, whose elements own blocks too.
-/
import Derived.Test.YtblggajfdhjmjaaUpd
import Derived.Maps.AppendAt
import Derived.Deep.AppendLies
namespace Go.Proofs.Ytblggajfdhjmjaa
open Go.RowKit

/-- the slice v is the list xs, in a row of its own from base on, ready to grow; its elements own the blocks F -/
def Bld {α : Type} (R : RepO α) (w : World) (base : Nat) (e : TypeId) (v : Value) (xs : List α) (F : List Nat) : Prop :=
  ∃ cs, w.ownsRow base e R.n v xs.length cs ∧ OwnCells R w cs xs F ∧ (∀ g, v.ownBlock = some g → g ∉ F) ∧ F.Nodup ∧ ∀ b ∈ F, base ≤ b

section
variable {α : Type} {R : RepO α} {w w2 : World} {base : Nat} {e : TypeId} {v : Value} {xs : List α} {F : List Nat}
theorem Bld.nil (w : World) (base : Nat) (e : TypeId) : Bld R w base e (.slice none 0 0) ([] : List α) [] :=
  ⟨[], World.ownsRow_nil w base e R.n, .nil, fun _ h => (by cases h), List.nodup_nil, fun _ h => by cases h⟩
theorem Bld.lit (w : World) (hb : base ≤ w.heap.size) (e : TypeId) : Bld R (w.alloc (.cells #[] e)) base e (.slice (some ⟨w.heap.size, 0, none⟩) 0 0) ([] : List α) [] :=
  ⟨[], ⟨by simp, .inr ⟨w.heap.size, 0, #[], rfl, hb, heap_alloc_new w _, Nat.le_refl _, Nat.zero_le _, by simp, by simp⟩⟩, .nil, fun _ _ h => (by cases h), List.nodup_nil, fun _ h => by cases h⟩
theorem Bld.lt (h : Bld R w base e v xs F) : (∀ b ∈ F, b < w.heap.size) ∧ ∀ g, v.ownBlock = some g → g < w.heap.size ∧ base ≤ g := by
  obtain ⟨cs, h1, h2, _⟩ := h
  refine ⟨h2.lt, fun g hg => ?_⟩
  rcases h1.2 with ⟨rfl, _⟩ | ⟨g', cap, cur, rfl, hb, hh, _⟩
  · cases hg
  · injection hg with hg
    subst hg
    exact ⟨block_lt hh, hb⟩
theorem Bld.keep (h : Bld R w base e v xs F) (hk : ∀ b, base ≤ b → b < w.heap.size → w2.heap[b]? = w.heap[b]?) : Bld R w2 base e v xs F := by
  have hl := h.lt
  obtain ⟨cs, h1, h2, h3, h4, h5⟩ := h
  refine ⟨cs, ⟨h1.1, ?_⟩, h2.keep fun b hb => hk b (h5 b hb) (hl.1 b hb), h3, h4, h5⟩
  rcases h1.2 with h | ⟨g', cap, cur, rfl, hb, hh, hr⟩
  · exact .inl h
  · exact .inr ⟨g', cap, cur, rfl, hb, (hk g' hb (block_lt hh)).trans hh, hr⟩
theorem Bld.ext (h : Bld R w base e v xs F) (x : Ext w w2) : Bld R w2 base e v xs F := h.keep fun _ _ hb => x.block hb
theorem Bld.done (h : Bld R w base e v xs F) : ∃ F', OwnSl R w v xs F' ∧ F'.Nodup ∧ ∀ b ∈ F', base ≤ b := by
  obtain ⟨cs, h1, h2, h3, h4, h5⟩ := h
  rcases h1.2 with ⟨rfl, hn⟩ | ⟨g, cap, cur, rfl, hb, hh, hnc, hcm, hcs, htake⟩
  · have : xs = [] := List.eq_nil_of_length_eq_zero hn
    exact ⟨[], .inl ⟨this, rfl, none, 0, rfl, Nat.zero_le _⟩, List.nodup_nil, fun _ h => by cases h⟩
  · refine ⟨g :: F, .inr ⟨g, 0, cap, cur, e, F, rfl, ⟨hnc, hcm⟩, hh, rfl, ?_, by rw [List.drop_zero, htake]; exact h2⟩, List.nodup_cons.2 ⟨h3 g rfl, h4⟩, fun b hb2 => ?_⟩
    · rw [hcs, Nat.zero_add]; exact Nat.mul_le_mul_right _ hnc
    · rcases List.mem_cons.1 hb2 with rfl | hb2
      · exact hb
      · exact h5 b hb2
theorem Bld.sl (h : Bld R w base e v xs F) : Sl R.toRep w v xs := by
  obtain ⟨F', h, _⟩ := h.done
  exact h.sl
/-- the blocks of data made since -/
theorem Bld.fresh (h : Bld R w base e v xs F) {G : List Nat} (hG : NewF w G) (hb : base ≤ w.heap.size) : (∀ b ∈ G, b ∉ F ∧ v.ownBlock ≠ some b) ∧ G.Nodup ∧ ∀ b ∈ G, base ≤ b := by
  refine ⟨fun b hb2 => ⟨fun hb3 => ?_, fun hb3 => ?_⟩, hG.1, fun b hb2 => Nat.le_trans hb (hG.2 b hb2)⟩
  · have := h.lt.1 b hb3
    have := hG.2 b hb2
    omega
  · have := (h.lt.2 b hb3).1
    have := hG.2 b hb2
    omega
theorem fresh_nil : (∀ b ∈ ([] : List Nat), b ∉ F ∧ v.ownBlock ≠ some b) ∧ ([] : List Nat).Nodup ∧ ∀ b ∈ ([] : List Nat), base ≤ b := ⟨fun _ h => (by cases h), List.nodup_nil, fun _ h => by cases h⟩
end

/-- what stands behind an append -/
theorem bld_grown {α : Type} {R : RepO α} {w w' : World} {base : Nat} {e : TypeId} {v v' : Value} {xs : List α} {F G : List Nat} {cs c : List Value} {y : α} (hl : (∀ b ∈ F, b < w.heap.size) ∧ ∀ g, v.ownBlock = some g → g < w.heap.size ∧ base ≤ g)
    (b2 : OwnCells R w cs xs F) (b3 : ∀ g, v.ownBlock = some g → g ∉ F) (b4 : F.Nodup) (b5 : ∀ b ∈ F, base ≤ b) (hy : R.own w c y G) (hG : (∀ b ∈ G, b ∉ F ∧ v.ownBlock ≠ some b) ∧ G.Nodup ∧ ∀ b ∈ G, base ≤ b)
    (hown : w'.ownsRow base e R.n v' (xs.length + 1) (cs ++ c)) (hgr : w.grownBy w' v.ownBlock) (hat : v'.ownBlock = v.ownBlock ∨ v'.ownBlock = some w.heap.size) :
    Bld R w' base e v' (xs ++ [y]) (F ++ G) ∧ ∀ w0 : World, w0.heap.size ≤ base → Ext w0 w → Ext w0 w' := by
  have hk : ∀ b, b < w.heap.size → v.ownBlock ≠ some b → w'.heap[b]? = w.heap[b]? := fun b hb hne => hgr.block b hb (fun e => hne e.symm)
  refine ⟨⟨cs ++ c, by simpa using hown, OwnCells.snoc (b2.keep fun b hb => hk b (hl.1 b hb) fun e => b3 b e hb) (R.own_keep (fun b hb => hk b (R.own_lt hy b hb) (hG.1 b hb).2) hy), fun g hg hm => ?_, ?_, fun b hb => ?_⟩, ?_⟩
  · rcases hat with hat | hat
    · rw [hat] at hg
      rcases List.mem_append.1 hm with hm | hm
      · exact b3 g hg hm
      · exact (hG.1 g hm).2 hg
    · rw [hat] at hg
      injection hg with hg
      subst hg
      rcases List.mem_append.1 hm with hm | hm
      · exact Nat.lt_irrefl _ (hl.1 _ hm)
      · exact Nat.lt_irrefl _ (R.own_lt hy _ hm)
  · exact List.nodup_append.2 ⟨b4, hG.2.1, fun x hx y hy e => (hG.1 y hy).1 (e ▸ hx)⟩
  · rcases List.mem_append.1 hb with hb | hb
    · exact b5 b hb
    · exact hG.2.2 b hb
  · intro w0 h0 hx0
    exact hx0.grown hgr fun g hg => Nat.le_trans h0 (hl.2 g hg).2
/-- 'append(s, x)': one element more -/
theorem wpList_app {P : Program} {α : Type} {R : RepO α} {ops : Array Oper} {rest : List Oper} {o : Oper} {a : Act} {w : World} {Q : Exit → Act → World → Prop} (hgd : o.guard = none) (s x : Operand) (t : TypeId)
    (ho : o.op = .call { callee := .builtin .append, args := #[s, x], argTypes := #[t, t] })
    (base : Nat) (e : TypeId) (i : TypeInfo) (z : Value) (bytes : Nat) (ht : P.underlying t = some (.slice e)) (hi : P.info? e = some i) (hz : i.zero = some z)
    (hsize : i.size = R.n) (hby : i.bytes = bytes) (hzs : z.cells.size = R.n) (hsz : 0 < R.n)
    {v : Value} {xs : List α} {F : List Nat} (hb : Bld R w base e v xs F) (hs : a.eval s = v)
    (ad : Addr) (k : Nat) (hx : a.eval x = .slice (some ad) 1 k) {c : List Value} (hc : ∀ j u, c[j]? = some u → w.cell? (ad.add j) = some u) (h1 : ∀ u ∈ c, u.oneCell' = true) {y : α} {G : List Nat} (hy : R.own w c y G)
    (hG : (∀ b ∈ G, b ∉ F ∧ v.ownBlock ≠ some b) ∧ G.Nodup ∧ ∀ b ∈ G, base ≤ b)
    (h63 : xs.length + 1 ≤ maxLen) (hbytes : (xs.length + 1) * bytes ≤ 140737488355328) (hbase : base ≤ w.heap.size)
    (h : ∀ v' w', Bld R w' base e v' (xs ++ [y]) (F ++ G) → (∀ w0 : World, w0.heap.size ≤ base → Ext w0 w → Ext w0 w') → wpList P ops Q rest (a.put o.dst v') w') :
    wpList P ops Q (o :: rest) a w := by
  have hl := hb.lt
  obtain ⟨cs, b1, b2, b3, b4, b5⟩ := hb
  refine wpList_append_own_at w hgd s x t ho base e i z R.n bytes ht hi hz hsize hby hzs hsz v xs.length cs hs b1 ad 1 k c hx (by rw [R.len (R.own_rd hy), Nat.one_mul]) hc h1 h63 hbytes hbase ?_
  intro v' w' hown hgr _ hat
  obtain ⟨h5, h6⟩ := bld_grown hl b2 b3 b4 b5 hy hG hown hgr hat
  exact h _ _ h5 h6
/-- what is known of an element type -/
structure ElemT (P : Program) (t e : TypeId) (n bytes : Nat) : Prop where
  ht : P.underlying t = some (.slice e)
  info : ∃ i z, P.info? e = some i ∧ i.zero = some z ∧ i.size = n ∧ i.bytes = bytes ∧ z.cells.size = n
/-- 'append(s, x)' as the walk meets it: the element has just been laid in a new block -/
theorem wpList_app1 {P : Program} {α : Type} {R : RepO α} {ops : Array Oper} {rest : List Oper} {o : Oper} {a : Act} {W : World} {Q : Exit → Act → World → Prop} {t e : TypeId} {bytes : Nat} (E : ElemT P t e R.n bytes) (hsz : 0 < R.n)
    (hgd : o.guard = none) (s x : Operand) (ho : o.op = .call { callee := .builtin .append, args := #[s, x], argTypes := #[t, t] })
    {base : Nat} {v : Value} {xs : List α} {F : List Nat} (hb : Bld R W base e v xs F) (hs : a.eval s = v) {c : Array Value} {T : TypeId} (g k : Nat) (hx : a.eval x = .slice (some ⟨g, 0, none⟩) 1 k) (hg : g = W.heap.size)
    (h1 : ∀ u ∈ c.toList, u.oneCell' = true) {y : α} {G : List Nat} (hy : R.own W c.toList y G) (hG : (∀ b ∈ G, b ∉ F ∧ v.ownBlock ≠ some b) ∧ G.Nodup ∧ ∀ b ∈ G, base ≤ b)
    (hbytes : xs.length + 1 ≤ 1099511627776) (hby : bytes ≤ 128) (hbase : base ≤ W.heap.size)
    (h : ∀ v' w', Bld R w' base e v' (xs ++ [y]) (F ++ G) → (∀ w0 : World, w0.heap.size ≤ base → Ext w0 W → Ext w0 w') → wpList P ops Q rest (a.put o.dst v') w') :
    wpList P ops Q (o :: rest) a (W.alloc (.cells c T)) := by
  obtain ⟨ht, i, z, hi, hz, hsize, hby2, hzs⟩ := E
  have x1 : Ext W (W.alloc (.cells c T)) := (Ext.refl W).alloc _
  refine wpList_app hgd s x t ho base e i z bytes ht hi hz hsize hby2 hzs hsz (hb.ext x1) hs ⟨g, 0, none⟩ k hx (fun j u hj => ?_) h1 (R.own_keep (fun b hb => x1.block (R.own_lt hy b hb)) hy) hG
    (by unfold maxLen; omega) (Nat.le_trans (Nat.mul_le_mul hbytes hby) (by decide)) (Nat.le_trans hbase x1.size) fun v' w' h2 h3 => h v' w' h2 fun w0 h4 h5 => h3 w0 h4 (h5.trans x1)
  subst hg
  have : (W.alloc (.cells c T)).cell? ⟨W.heap.size, j, none⟩ = c[j]? := ((Ext.refl (W.alloc (.cells c T))).box).1 j
  rw [add_eq, Nat.zero_add, this]
  simpa using hj
/-- the same; other blocks of the run's own stand -/
theorem wpList_app1k {P : Program} {α : Type} {R : RepO α} {ops : Array Oper} {rest : List Oper} {o : Oper} {a : Act} {W : World} {Q : Exit → Act → World → Prop} {t e : TypeId} {bytes : Nat} (E : ElemT P t e R.n bytes) (hsz : 0 < R.n)
    (hgd : o.guard = none) (s x : Operand) (ho : o.op = .call { callee := .builtin .append, args := #[s, x], argTypes := #[t, t] })
    {base : Nat} {v : Value} {xs : List α} {F : List Nat} (hb : Bld R W base e v xs F) (hs : a.eval s = v) {c : Array Value} {T : TypeId} (g k : Nat) (hx : a.eval x = .slice (some ⟨g, 0, none⟩) 1 k) (hg : g = W.heap.size)
    (h1 : ∀ u ∈ c.toList, u.oneCell' = true) {y : α} {G : List Nat} (hy : R.own W c.toList y G) (hG : (∀ b ∈ G, b ∉ F ∧ v.ownBlock ≠ some b) ∧ G.Nodup ∧ ∀ b ∈ G, base ≤ b)
    (hbytes : xs.length + 1 ≤ 1099511627776) (hby : bytes ≤ 128) (hbase : base ≤ W.heap.size)
    (h : ∀ v' w', Bld R w' base e v' (xs ++ [y]) (F ++ G) → (∀ w0 : World, w0.heap.size ≤ base → Ext w0 W → Ext w0 w') →
      (∀ F' : List Nat, (∀ b ∈ F', b < W.heap.size) → (∀ b ∈ F', v.ownBlock ≠ some b) → (∀ b ∈ F', w'.heap[b]? = W.heap[b]?) ∧ ∀ b ∈ F', v'.ownBlock ≠ some b) → wpList P ops Q rest (a.put o.dst v') w') :
    wpList P ops Q (o :: rest) a (W.alloc (.cells c T)) := by
  obtain ⟨ht, i, z, hi, hz, hsize, hby2, hzs⟩ := E
  have x1 : Ext W (W.alloc (.cells c T)) := (Ext.refl W).alloc _
  have hb1 := hb.ext x1
  have hl := hb1.lt
  obtain ⟨cs, b1, b2, b3, b4, b5⟩ := hb1
  have hy1 : R.own (W.alloc (.cells c T)) c.toList y G := R.own_keep (fun b hb => x1.block (R.own_lt hy b hb)) hy
  refine wpList_append_own_at (W.alloc (.cells c T)) hgd s x t ho base e i z R.n bytes ht hi hz hsize hby2 hzs hsz v xs.length cs hs b1 ⟨g, 0, none⟩ 1 k c.toList hx (by rw [R.len (R.own_rd hy), Nat.one_mul]) (fun j u hj => ?_) h1
    (by unfold maxLen; omega) (Nat.le_trans (Nat.mul_le_mul hbytes hby) (by decide)) (Nat.le_trans hbase x1.size) ?_
  · subst hg
    have : (W.alloc (.cells c T)).cell? ⟨W.heap.size, j, none⟩ = c[j]? := ((Ext.refl (W.alloc (.cells c T))).box).1 j
    rw [add_eq, Nat.zero_add, this]
    simpa using hj
  · intro v' w' hown hgr _ hat
    obtain ⟨h5, h6⟩ := bld_grown hl b2 b3 b4 b5 hy1 hG hown hgr hat
    refine h _ _ h5 (fun w0 h7 h8 => h6 w0 h7 (h8.trans x1)) fun F' hF hv => ⟨fun b hb => ?_, fun b hb e => ?_⟩
    · rw [hgr.block b (Nat.lt_of_lt_of_le (hF b hb) x1.size) (fun e => hv b hb e.symm), x1.block (hF b hb)]
    · rcases hat with hat | hat
      · exact hv b hb (hat ▸ e)
      · rw [hat] at e
        injection e with e
        have := hF b hb
        have := x1.size
        omega
/-- at a step of a region that draws its order -/
theorem step_app1 {P : Program} {α : Type} {R : RepO α} {ops : Array Oper} {o : Oper} {a : Act} {w : World} {K : Act → World → Prop} {Q : Exit → Act → World → Prop} {Z : Prop} {t e : TypeId} {bytes : Nat} (E : ElemT P t e R.n bytes) (hsz : 0 < R.n)
    (hgd : o.guard = none) (s x : Operand) (ho : o.op = .call { callee := .builtin .append, args := #[s, x], argTypes := #[t, t] })
    {base : Nat} {v : Value} {xs : List α} {F : List Nat} (hb : Bld R w base e v xs F) (hs : a.eval s = v) {c : Array Value} {T : TypeId} {fr : Nat × Nat} (g k : Nat) (hx : a.eval x = .slice (some ⟨g, 0, none⟩) 1 k) (hg : w.heap[g]? = some (.cells c T fr))
    (h1 : ∀ u ∈ c.toList, u.oneCell' = true) {y : α} {G : List Nat} (hy : R.own w c.toList y G) (hG : (∀ b ∈ G, b ∉ F ∧ v.ownBlock ≠ some b) ∧ G.Nodup ∧ ∀ b ∈ G, base ≤ b)
    (hbytes : xs.length + 1 ≤ 1099511627776) (hby : bytes ≤ 128) (hbase : base ≤ w.heap.size) {w0 : World} (h0 : w0.heap.size ≤ base) (hx0 : Ext w0 w)
    (h : ∀ v' w', Bld R w' base e v' (xs ++ [y]) (F ++ G) → Ext w0 w' → K (a.put o.dst v') w') :
    if Region.wanted o (yielded ops a.tmps) = true then Oper.wp P o a w K Q else Z := by
  have hw : Region.wanted o (yielded ops a.tmps) = true := by simp [Region.wanted, hgd]
  rw [if_pos hw]
  obtain ⟨ht, i, z, hi, hz, hsize, hby2, hzs⟩ := E
  have hl := hb.lt
  obtain ⟨cs, b1, b2, b3, b4, b5⟩ := hb
  refine wp_append_lies w s x t ho base e i z R.n bytes ht hi hz hsize hby2 hzs hsz v xs.length cs hs b1 ⟨g, 0, none⟩ 1 k c.toList hx (by rw [R.len (R.own_rd hy), Nat.one_mul]) (World.news_of_block hg) h1 (by decide)
    (by unfold maxLen; omega) (Nat.le_trans (Nat.mul_le_mul hbytes hby) (by decide)) hbase w.heap.size rfl ?_
  intro g' cap w' hown hgr hat _
  have hat2 : (Value.slice (some ⟨g', 0, none⟩) (xs.length + 1) cap).ownBlock = v.ownBlock ∨ (Value.slice (some ⟨g', 0, none⟩) (xs.length + 1) cap).ownBlock = some w.heap.size := by
    rcases hat with hat | hat
    · exact .inl hat.symm
    · exact .inr (by rw [hat]; rfl)
  obtain ⟨h5, h6⟩ := bld_grown hl b2 b3 b4 b5 hy hG hown hgr hat2
  exact h _ _ h5 (h6 w0 h0 hx0)
/-- the same; other blocks stand -/
theorem step_app1k {P : Program} {α : Type} {R : RepO α} {ops : Array Oper} {o : Oper} {a : Act} {w : World} {K : Act → World → Prop} {Q : Exit → Act → World → Prop} {Z : Prop} {t e : TypeId} {bytes : Nat} (E : ElemT P t e R.n bytes) (hsz : 0 < R.n)
    (hgd : o.guard = none) (s x : Operand) (ho : o.op = .call { callee := .builtin .append, args := #[s, x], argTypes := #[t, t] })
    {base : Nat} {v : Value} {xs : List α} {F : List Nat} (hb : Bld R w base e v xs F) (hs : a.eval s = v) {c : Array Value} {T : TypeId} {fr : Nat × Nat} (g k : Nat) (hx : a.eval x = .slice (some ⟨g, 0, none⟩) 1 k) (hg : w.heap[g]? = some (.cells c T fr))
    (h1 : ∀ u ∈ c.toList, u.oneCell' = true) {y : α} {G : List Nat} (hy : R.own w c.toList y G) (hG : (∀ b ∈ G, b ∉ F ∧ v.ownBlock ≠ some b) ∧ G.Nodup ∧ ∀ b ∈ G, base ≤ b)
    (hbytes : xs.length + 1 ≤ 1099511627776) (hby : bytes ≤ 128) (hbase : base ≤ w.heap.size) {w0 : World} (h0 : w0.heap.size ≤ base) (hx0 : Ext w0 w)
    (h : ∀ v' w', Bld R w' base e v' (xs ++ [y]) (F ++ G) → Ext w0 w' → (∀ b, b < w.heap.size → v.ownBlock ≠ some b → w'.heap[b]? = w.heap[b]?) → K (a.put o.dst v') w') :
    if Region.wanted o (yielded ops a.tmps) = true then Oper.wp P o a w K Q else Z := by
  have hw : Region.wanted o (yielded ops a.tmps) = true := by simp [Region.wanted, hgd]
  rw [if_pos hw]
  obtain ⟨ht, i, z, hi, hz, hsize, hby2, hzs⟩ := E
  have hl := hb.lt
  obtain ⟨cs, b1, b2, b3, b4, b5⟩ := hb
  refine wp_append_lies w s x t ho base e i z R.n bytes ht hi hz hsize hby2 hzs hsz v xs.length cs hs b1 ⟨g, 0, none⟩ 1 k c.toList hx (by rw [R.len (R.own_rd hy), Nat.one_mul]) (World.news_of_block hg) h1 (by decide)
    (by unfold maxLen; omega) (Nat.le_trans (Nat.mul_le_mul hbytes hby) (by decide)) hbase w.heap.size rfl ?_
  intro g' cap w' hown hgr hat _
  have hat2 : (Value.slice (some ⟨g', 0, none⟩) (xs.length + 1) cap).ownBlock = v.ownBlock ∨ (Value.slice (some ⟨g', 0, none⟩) (xs.length + 1) cap).ownBlock = some w.heap.size := by
    rcases hat with hat | hat
    · exact .inl hat.symm
    · exact .inr (by rw [hat]; rfl)
  obtain ⟨h5, h6⟩ := bld_grown hl b2 b3 b4 b5 hy hG hown hgr hat2
  exact h _ _ h5 (h6 w0 h0 hx0) fun b hb2 hne => hgr.block b hb2 (fun e => hne e.symm)
theorem cell_of_same {w w2 : World} {b : Nat} (h : w2.heap[b]? = w.heap[b]?) (o : Nat) : w2.cell? ⟨b, o, none⟩ = w.cell? ⟨b, o, none⟩ := by unfold World.cell?; rw [h]
end Go.Proofs.Ytblggajfdhjmjaa
