/-
  PLAIN LAWS, OF NO PROGRAM: data that a call made: which blocks they own ('F').
-/
import Derived.Test.YtblggajfdhjmjaaLib
namespace Go.Proofs.Ytblggajfdhjmjaa
open Go.RowKit

structure RepO (α : Type) extends Rep α where
  own : World → List Value → α → List Nat → Prop
  own_rd : ∀ {w cs x F}, own w cs x F → rd w cs x
  own_lt : ∀ {w cs x F}, own w cs x F → ∀ b ∈ F, b < w.heap.size
  own_keep : ∀ {w w2 cs x F}, (∀ b ∈ F, w2.heap[b]? = w.heap[b]?) → own w cs x F → own w2 cs x F

/-- data without pointers own nothing -/
def flatO {α : Type} (R : Rep α) (hf : ∀ w w2 cs x, R.rd w cs x → R.rd w2 cs x) : RepO α :=
  { R with
    own := fun w cs x F => R.rd w cs x ∧ F = []
    own_rd := fun h => h.1
    own_lt := fun h b hb => by rw [h.2] at hb; cases hb
    own_keep := fun _ h => ⟨hf _ _ _ _ h.1, h.2⟩ }
def intO : RepO Int := flatO intR fun _ _ _ _ h => h
def boolO : RepO Bool := flatO boolR fun _ _ _ _ h => h
def strO : RepO ByteArray := flatO strR fun _ _ _ _ h => h

def OwnCells {α : Type} (R : RepO α) (w : World) : List Value → List α → List Nat → Prop
  | cs, [], F => cs = [] ∧ F = []
  | cs, x :: xs, F => ∃ c d F1 F2, cs = c ++ d ∧ F = F1 ++ F2 ∧ R.own w c x F1 ∧ OwnCells R w d xs F2

section
variable {α : Type} {R : RepO α} {w w2 : World} {cs ds : List Value} {xs ys : List α} {F G : List Nat}
theorem OwnCells.nil : OwnCells R w [] [] [] := ⟨rfl, rfl⟩
theorem OwnCells.length : ∀ {xs : List α} {cs : List Value} {F : List Nat}, OwnCells R w cs xs F → cs.length = xs.length * R.n
  | [], _, _, h => by rw [h.1]; simp
  | x :: xs, _, _, ⟨c, d, F1, F2, h1, _, h2, h3⟩ => by
    rw [h1, List.length_append, R.len (R.own_rd h2), OwnCells.length h3, List.length_cons, Nat.add_mul]; omega
theorem OwnCells.lt : ∀ {xs : List α} {cs : List Value} {F : List Nat}, OwnCells R w cs xs F → ∀ b ∈ F, b < w.heap.size
  | [], _, _, h, b, hb => by rw [h.2] at hb; cases hb
  | x :: xs, _, _, ⟨c, d, F1, F2, _, h1, h2, h3⟩, b, hb => by
    rw [h1] at hb
    rcases List.mem_append.1 hb with hb | hb
    · exact R.own_lt h2 b hb
    · exact OwnCells.lt h3 b hb
theorem OwnCells.keep : ∀ {xs : List α} {cs : List Value} {F : List Nat}, (∀ b ∈ F, w2.heap[b]? = w.heap[b]?) → OwnCells R w cs xs F → OwnCells R w2 cs xs F
  | [], _, _, _, h => h
  | x :: xs, _, _, hk, ⟨c, d, F1, F2, h0, h1, h2, h3⟩ => by
    subst h1
    exact ⟨c, d, F1, F2, h0, rfl, R.own_keep (fun b hb => hk b (List.mem_append_left _ hb)) h2, OwnCells.keep (fun b hb => hk b (List.mem_append_right _ hb)) h3⟩
theorem OwnCells.append : ∀ {xs : List α} {cs : List Value} {F : List Nat}, OwnCells R w cs xs F → OwnCells R w ds ys G → OwnCells R w (cs ++ ds) (xs ++ ys) (F ++ G)
  | [], _, _, h, k => by rw [h.1, h.2]; exact k
  | x :: xs, _, _, ⟨c, d, F1, F2, h0, h1, h2, h3⟩, k => by
    subst h0; subst h1
    exact ⟨c, d ++ ds, F1, F2 ++ G, by simp, by simp, h2, OwnCells.append h3 k⟩
theorem OwnCells.one {x : α} {c : List Value} (h : R.own w c x F) : OwnCells R w c [x] F := ⟨c, [], F, [], by simp, by simp, h, rfl, rfl⟩
theorem OwnCells.snoc {x : α} {c : List Value} (h : OwnCells R w cs xs F) (k : R.own w c x G) : OwnCells R w (cs ++ c) (xs ++ [x]) (F ++ G) := h.append (.one k)
/-- parted at index i -/
theorem OwnCells.split : ∀ {xs : List α} {cs : List Value} {F : List Nat} (i : Nat) (_ : OwnCells R w cs xs F) (hi : i < xs.length),
    ∃ c0 c c1 F0 F1 F2, cs = c0 ++ (c ++ c1) ∧ F = F0 ++ (F1 ++ F2) ∧ c0.length = i * R.n ∧ c.length = R.n ∧ OwnCells R w c0 (xs.take i) F0 ∧ R.own w c xs[i] F1 ∧ OwnCells R w c1 (xs.drop (i + 1)) F2
  | [], _, _, i, _, hi => by simp at hi
  | x :: xs, _, _, 0, ⟨c, d, F1, F2, h0, h1, h2, h3⟩, _ => ⟨[], c, d, [], F1, F2, by simpa using h0, by simpa using h1, by simp, R.len (R.own_rd h2), OwnCells.nil, h2, by simpa using h3⟩
  | x :: xs, _, _, i + 1, ⟨c, d, F1, F2, h0, h1, h2, h3⟩, hi => by
    obtain ⟨c0, c', c1, G0, G1, G2, e0, e1, e2, e3, k0, k1, k2⟩ := OwnCells.split i h3 (by simpa using hi)
    refine ⟨c ++ c0, c', c1, F1 ++ G0, G1, G2, by rw [h0, e0]; simp, by rw [h1, e1]; simp, ?_, e3, ?_, by simpa using k1, by simpa using k2⟩
    · rw [List.length_append, R.len (R.own_rd h2), e2, Nat.add_mul]; omega
    · exact ⟨c, c0, F1, G0, rfl, rfl, h2, k0⟩
theorem OwnCells.rd (h : OwnCells R w cs xs F) {i : Nat} (hi : i < xs.length) : ∃ c, R.rd w c xs[i] ∧ ∀ j, j < R.n → cs[i * R.n + j]? = c[j]? := by
  obtain ⟨c0, c, c1, F0, F1, F2, rfl, rfl, e2, e3, _, k1, _⟩ := h.split i hi
  refine ⟨c, R.own_rd k1, fun j hj => ?_⟩
  rw [List.getElem?_append_right (by omega), e2, show i * R.n + j - i * R.n = j by omega, List.getElem?_append_left (by omega)]
end

/-- the slice v is the list xs, in blocks of its own -/
def OwnSl {α : Type} (R : RepO α) (w : World) (v : Value) (xs : List α) (F : List Nat) : Prop :=
  (xs = [] ∧ F = [] ∧ ∃ A cap, v = .slice A 0 cap ∧ cap ≤ maxLen) ∨
  ∃ g off cap cur e F2, v = .slice (some ⟨g, off, none⟩) xs.length cap ∧ (xs.length ≤ cap ∧ cap ≤ maxLen) ∧ w.heap[g]? = some (.cells cur e (0, 0)) ∧ F = g :: F2 ∧
    off + xs.length * R.n ≤ cur.size ∧ OwnCells R w ((cur.toList.drop off).take (xs.length * R.n)) xs F2

section
variable {α : Type} {R : RepO α} {w w2 : World} {v : Value} {xs : List α} {F : List Nat}
theorem block_lt {g : Nat} {o : Obj} (h : w.heap[g]? = some o) : g < w.heap.size := (Array.getElem?_eq_some_iff.1 h).1
theorem OwnSl.lt (h : OwnSl R w v xs F) : ∀ b ∈ F, b < w.heap.size := by
  rcases h with ⟨_, rfl, _⟩ | ⟨g, off, cap, cur, e, F2, _, _, hg, rfl, _, hc⟩
  · intro b hb; cases hb
  · intro b hb
    rcases List.mem_cons.1 hb with rfl | hb
    · exact block_lt hg
    · exact hc.lt b hb
theorem OwnSl.keep (h : OwnSl R w v xs F) (hk : ∀ b ∈ F, w2.heap[b]? = w.heap[b]?) : OwnSl R w2 v xs F := by
  rcases h with h | ⟨g, off, cap, cur, e, F2, rfl, hm, hg, rfl, hs, hc⟩
  · exact .inl h
  · exact .inr ⟨g, off, cap, cur, e, F2, rfl, hm, (hk g (List.mem_cons_self ..)).trans hg, rfl, hs, hc.keep fun b hb => hk b (List.mem_cons_of_mem _ hb)⟩
theorem OwnSl.ext (h : OwnSl R w v xs F) (e : Ext w w2) : OwnSl R w2 v xs F := h.keep fun b hb => e.block (h.lt b hb)
theorem OwnSl.sl (h : OwnSl R w v xs F) : Sl R.toRep w v xs := by
  rcases h with ⟨rfl, _, A, cap, rfl, hcm⟩ | ⟨g, off, cap, cur, e, F2, rfl, hm, hg, rfl, hs, hc⟩
  · exact ⟨A, cap, rfl, ⟨Nat.zero_le _, hcm⟩, fun i hi => by simp at hi⟩
  · refine ⟨_, cap, rfl, hm, fun i hi => ?_⟩
    obtain ⟨c, hr, hj⟩ := hc.rd hi
    refine ⟨g, off, c, rfl, hr, fun j hjn => ?_⟩
    rw [← hj j hjn, cell_of_row w g _ cur e (0, 0) hg]
    have hlt : i * R.n + j < xs.length * R.n := Nat.lt_of_lt_of_le (by omega : i * R.n + j < i * R.n + R.n) (by rw [← Nat.succ_mul]; exact Nat.mul_le_mul_right _ hi)
    rw [List.getElem?_take, if_pos hlt, List.getElem?_drop]
    simp [Nat.add_assoc]
theorem OwnSl.form (h : OwnSl R w v xs F) : ∃ A cap, v = .slice A xs.length cap ∧ xs.length ≤ 9223372036854775807 := h.sl.form
end

/-- a slice as an element -/
def slO {α : Type} (R : RepO α) : RepO (List α) :=
  { slR R.toRep with
    own := fun w cs xs F => ∃ v, cs = [v] ∧ OwnSl R w v xs F
    own_rd := fun ⟨v, h, k⟩ => ⟨v, h, k.sl⟩
    own_lt := fun ⟨_, _, k⟩ => k.lt
    own_keep := fun hk ⟨v, h, k⟩ => ⟨v, h, k.keep hk⟩ }

/-- blocks that are new since w, each once -/
def NewF (w : World) (F : List Nat) : Prop := F.Nodup ∧ ∀ b ∈ F, w.heap.size ≤ b
theorem NewF.nil (w : World) : NewF w [] := ⟨List.nodup_nil, fun _ h => by cases h⟩
theorem NewF.ext {w w2 : World} {F : List Nat} (e : Ext w w2) (h : NewF w2 F) : NewF w F := ⟨h.1, fun b hb => Nat.le_trans e.size (h.2 b hb)⟩
theorem NewF.append {w w2 : World} {F G : List Nat} (hF : NewF w F) (hG : NewF w2 G) (e : Ext w w2) (hlt : ∀ b ∈ F, b < w2.heap.size) : NewF w (F ++ G) := by
  refine ⟨List.nodup_append.2 ⟨hF.1, hG.1, fun a ha b hb => ?_⟩, fun b hb => ?_⟩
  · have h1 := hlt a ha
    have h2 := hG.2 b hb
    omega
  · rcases List.mem_append.1 hb with hb | hb
    · exact hF.2 b hb
    · exact Nat.le_trans e.size (hG.2 b hb)

/-! ### A block of the call's own, while it is written -/
/-- block g holds the cells cs, none frozen -/
def Blk (w : World) (g : Nat) (e : TypeId) (cs : List Value) : Prop := w.heap[g]? = some (.cells cs.toArray e (0, 0))
theorem Blk.out {w : World} {g : Nat} {e : TypeId} {cs : List Value} (h : Blk w g e cs) : w.heap[g]? = some (.cells cs.toArray e (0, 0)) := h
theorem Blk.new (w : World) (e : TypeId) (cs : Array Value) : Blk (w.alloc (.cells cs e)) w.heap.size e cs.toList := heap_alloc_new w _
theorem Blk.keep {w w2 : World} {g : Nat} {e : TypeId} {cs : List Value} (h : Blk w g e cs) (k : w2.heap[g]? = w.heap[g]?) : Blk w2 g e cs := Eq.trans k h
theorem Blk.ext {w w2 : World} {g : Nat} {e : TypeId} {cs : List Value} (h : Blk w g e cs) (k : Ext w w2) : Blk w2 g e cs := h.keep (k.block (block_lt h))
theorem Blk.cells {w : World} {g : Nat} {e : TypeId} {cs : List Value} (h : Blk w g e cs) : (∀ i, w.cell? ⟨g, i, none⟩ = cs[i]?) ∧ ∀ i, w.frozen? ⟨g, i, none⟩ = false :=
  ⟨fun i => by rw [cell_of_row w g i _ e (0, 0) h]; simp, fun i => frozen_of_row w g i _ e h⟩
theorem Blk.store {w : World} {g : Nat} {done rest : List Value} {z : Value} {e : TypeId} {k : Nat} (h : Blk w g e (done ++ z :: rest)) (hk : done.length = k) (u : Value) :
    Blk (w.setCell ⟨g, k, none⟩ u) g e ((done ++ [u]) ++ rest) := by
  unfold Blk at *
  rw [heap_setCell_same w g k _ e u h]
  subst hk
  simp
theorem Blk.at_ {w : World} {g : Nat} {done rest : List Value} {z : Value} {e : TypeId} {k : Nat} (h : Blk w g e (done ++ z :: rest)) (hk : done.length = k) :
    w.cell? ⟨g, k, none⟩ = some z ∧ w.frozen? ⟨g, k, none⟩ = false := by
  refine ⟨?_, h.cells.2 k⟩
  rw [h.cells.1]
  subst hk
  simp
section
variable {α : Type} {R : RepO α} {w w2 : World} {v : Value} {xs : List α} {F : List Nat}
/-- a row laid whole -/
theorem OwnSl.of_blk {g : Nat} {cs : List Value} {e : TypeId} {F2 : List Nat} (hg : Blk w g e cs) (hm : xs.length ≤ maxLen) (hc : OwnCells R w cs xs F2) :
    OwnSl R w (.slice (some ⟨g, 0, none⟩) xs.length xs.length) xs (g :: F2) :=
  .inr ⟨g, 0, _, _, e, F2, rfl, ⟨Nat.le_refl _, hm⟩, hg, rfl, by simp [hc.length], by simpa [← hc.length] using hc⟩
end
theorem keep_setCell {w : World} {p : Addr} {u : Value} {b : Nat} (h : b ≠ p.block) : (w.setCell p u).heap[b]? = w.heap[b]? := Below.heap_setCell w p u b h

/-- blocks from g + 1 on, each once -/
def FromF (g : Nat) (F : List Nat) : Prop := F.Nodup ∧ ∀ b ∈ F, g < b
theorem FromF.nil (g : Nat) : FromF g [] := ⟨List.nodup_nil, fun _ h => by cases h⟩
theorem FromF.new {g : Nat} {w : World} {F : List Nat} (h : FromF g F) (hg : g = w.heap.size) : NewF w (g :: F) :=
  ⟨List.nodup_cons.2 ⟨fun hm => by have := h.2 g hm; omega, h.1⟩, fun b hb => by
    rcases List.mem_cons.1 hb with rfl | hb
    · omega
    · have := h.2 b hb; omega⟩
/-- one element more: it was made between wr and w2, and stored in block g -/
theorem OwnCells.step {α : Type} {R : RepO α} {wr w2 w3 : World} {g : Nat} {done c : List Value} {xs : List α} {x : α} {F F2 : List Nat} (h : OwnCells R wr done xs F) (hF : FromF g F)
    (hx : Ext wr w2) (ho : R.own w2 c x F2) (hn : NewF wr F2) (hg : g < wr.heap.size) (hk : ∀ b, b ≠ g → w3.heap[b]? = w2.heap[b]?) :
    OwnCells R w3 (done ++ c) (xs ++ [x]) (F ++ F2) ∧ FromF g (F ++ F2) := by
  have h2 : ∀ b ∈ F2, g < b := fun b hb => Nat.lt_of_lt_of_le hg (hn.2 b hb)
  refine ⟨?_, ?_, fun b hb => ?_⟩
  · refine OwnCells.snoc (h.keep fun b hb => ?_) (R.own_keep (fun b hb => hk b (by have := h2 b hb; omega)) ho)
    rw [hk b (by have := hF.2 b hb; omega), hx.block (h.lt b hb)]
  · refine List.nodup_append.2 ⟨hF.1, hn.1, fun a ha b hb => ?_⟩
    have := h.lt a ha
    have := hn.2 b hb
    omega
  · rcases List.mem_append.1 hb with hb | hb
    · exact hF.2 b hb
    · exact h2 b hb

theorem OwnSl.setCell {α : Type} {R : RepO α} {w : World} {v : Value} {xs : List α} {F : List Nat} (h : OwnSl R w v xs F) {p : Addr} (hp : p.block ∉ F) (u : Value) : OwnSl R (w.setCell p u) v xs F :=
  h.keep fun b hb => keep_setCell (fun e => hp (e ▸ hb))
theorem OwnCells.setCell {α : Type} {R : RepO α} {w : World} {cs : List Value} {xs : List α} {F : List Nat} (h : OwnCells R w cs xs F) {p : Addr} (hp : p.block ∉ F) (u : Value) : OwnCells R (w.setCell p u) cs xs F :=
  h.keep fun b hb => keep_setCell (fun e => hp (e ▸ hb))

/-! ### make -/
theorem madeCells_flat (zs : List Value) (n : Nat) : (madeCells zs.toArray (n * zs.length)).toList = (List.replicate n zs).flatten := by
  induction n with
  | zero => simp [madeCells]
  | succ n ih =>
    rw [List.replicate_succ', List.flatten_append, ← ih]
    apply List.ext_getElem?
    intro j
    simp only [madeCells, List.size_toArray, Array.toList_map, Array.toList_range, List.getElem?_map, List.flatten_cons, List.flatten_nil, List.append_nil]
    by_cases h1 : j < n * zs.length
    · rw [List.getElem?_append_left (by simpa using h1)]
      simp [h1, Nat.add_mul, Nat.lt_of_lt_of_le h1]
    · rw [List.getElem?_append_right (by simpa using h1)]
      simp only [List.length_map, List.length_range]
      by_cases h2 : j < (n + 1) * zs.length
      · have h3 : j - n * zs.length < zs.length := by rw [Nat.add_mul] at h2; omega
        have h4 : j % zs.length = j - n * zs.length := by
          have e : zs.length * n + (j - n * zs.length) = j := by rw [Nat.mul_comm zs.length n]; omega
          have h5 : (zs.length * n + (j - n * zs.length)) % zs.length = j - n * zs.length := by rw [Nat.mul_add_mod, Nat.mod_eq_of_lt h3]
          rwa [e] at h5
        simp [h2, h3, h4]
      · have h3 : ¬ j - n * zs.length < zs.length := by rw [Nat.add_mul] at h2; omega
        simp [h2, h3]

theorem run_mk {P : Program} (t e : TypeId) (i : TypeInfo) (z : Value) (zs : List Value) (bytes : Nat) (ht : P.underlying t = some (.slice e)) (hi : P.info? e = some i) (hz : i.zero = some z)
    (hzs : z.cells = zs.toArray) (hsz : i.size = zs.length) (hby : i.bytes = bytes) (n : Nat) (hb : bytes * n ≤ 281474976710656) (h63 : n ≤ 9223372036854775807) :
    ∀ W : World, (Instr.makeSlice t (.int .i64 (n : Int)) (.int .i64 (n : Int))).run P W = .ok (.slice (some ⟨W.heap.size, 0, none⟩) n n) (W.alloc (.cells (List.replicate n zs).flatten.toArray e)) := by
  intro W
  have hb2 : (i.bytes : Int) * (n : Int) ≤ 281474976710656 := by
    have h : ((i.bytes * n : Nat) : Int) ≤ 281474976710656 := by rw [hby]; omega
    rwa [Int.natCast_mul] at h
  have hr := run_make (P := P) W t e i z ht hi hz .i64 .i64 n n (by omega) (Int.le_refl _) hb2 (by omega)
  simp only [Int.toNat_natCast] at hr
  rw [hr, hzs, hsz, ← madeCells_flat]
end Go.Proofs.Ytblggajfdhjmjaa
