/-
  PLAIN LAWS, OF NO PROGRAM: a call that writes into blocks of the run's own alone; what marked data look like.
-/
import Derived.Test.YtblggajfdhjmjaaUpd
namespace Go.Proofs.Ytblggajfdhjmjaa
open Go.RowKit

/-- all stands but the blocks F -/
structure Chg (F : List Nat) (w w2 : World) : Prop where
  os : w2.os = w.os
  tape : w2.tape = w.tape
  output : w2.output = w.output
  size : w.heap.size ≤ w2.heap.size
  block : ∀ b, b < w.heap.size → b ∉ F → w2.heap[b]? = w.heap[b]?
theorem Chg.refl (F : List Nat) (w : World) : Chg F w w := ⟨rfl, rfl, rfl, Nat.le_refl _, fun _ _ _ => rfl⟩
theorem Chg.trans {F : List Nat} {a b c : World} (h : Chg F a b) (k : Chg F b c) : Chg F a c :=
  ⟨k.os.trans h.os, k.tape.trans h.tape, k.output.trans h.output, Nat.le_trans h.size k.size, fun i hi hn => (k.block i (Nat.lt_of_lt_of_le hi h.size) hn).trans (h.block i hi hn)⟩
theorem Chg.mono {F G : List Nat} {a b : World} (h : Chg F a b) (hs : ∀ x ∈ F, x ∈ G) : Chg G a b := ⟨h.os, h.tape, h.output, h.size, fun i hi hn => h.block i hi fun hm => hn (hs i hm)⟩
theorem Chg.of_ext {F : List Nat} {a b : World} (h : Ext a b) : Chg F a b := ⟨h.os, h.tape, h.output, h.size, fun _ hi _ => h.block hi⟩
theorem Chg.setCell {F : List Nat} {a b : World} (h : Chg F a b) {p : Addr} (hp : p.block ∈ F) (u : Value) : Chg F a (b.setCell p u) := by
  have hs := World.size_setCell b p u
  refine ⟨h.os, h.tape, h.output, by rw [hs]; exact h.size, fun i hi hn => ?_⟩
  have hne : i ≠ p.block := fun e => hn (by rw [e]; exact hp)
  rw [keep_setCell hne]
  exact h.block i hi hn
/-- what is new since w0 alone was written -/
theorem Chg.ext {F : List Nat} {w0 a b : World} (h : Chg F a b) (hF : ∀ x ∈ F, w0.heap.size ≤ x) (x : Ext w0 a) : Ext w0 b :=
  ⟨h.os.trans x.os, h.tape.trans x.tape, h.output.trans x.output, Nat.le_trans x.size h.size, fun k hk => (h.block k (Nat.lt_of_lt_of_le hk x.size) fun hm => by have := hF k hm; omega).trans (x.block hk)⟩
/-- two sets of blocks -/
def Dis (F G : List Nat) : Prop := ∀ b ∈ F, b ∉ G
theorem Dis.symm {F G : List Nat} (h : Dis F G) : Dis G F := fun b hb hf => h b hf hb
theorem Dis.new {w : World} {F G : List Nat} (hF : ∀ b ∈ F, b < w.heap.size) (hG : NewF w G) : Dis F G := fun b hb hg => by
  have := hF b hb
  have := hG.2 b hg
  omega
theorem Chg.keep {α : Type} {R : RepO α} {w w2 : World} {cs : List Value} {x : α} {F G : List Nat} (h : Chg G w w2) (d : Dis F G) (o : R.own w cs x F) : R.own w2 cs x F :=
  R.own_keep (fun b hb => h.block b (R.own_lt o b hb) (d b hb)) o
theorem Chg.keepSl {α : Type} {R : RepO α} {w w2 : World} {v : Value} {xs : List α} {F G : List Nat} (h : Chg G w w2) (d : Dis F G) (o : OwnSl R w v xs F) : OwnSl R w2 v xs F :=
  o.keep fun b hb => h.block b (o.lt b hb) (d b hb)

/-- how many numbers a value takes when it is marked; what it is then -/
structure Mk (α : Type) where
  cnt : α → Nat
  is : Int → α → α → Prop
def intMk : Mk Int := ⟨fun _ => 1, fun k _ y => y = k⟩
def Mk.sum {α : Type} (M : Mk α) (xs : List α) : Nat := (xs.map M.cnt).sum
def lstMk {α : Type} (M : Mk α) : Mk (List α) := ⟨M.sum, fun k xs ys => ys.length = xs.length ∧ ∀ (j : Nat) (h : j < xs.length) (h2 : j < ys.length), M.is (k + (M.sum (xs.take j) : Nat)) xs[j] ys[j]⟩
theorem Mk.sum_step {α : Type} (M : Mk α) (xs : List α) (i : Nat) (h : i < xs.length) : M.sum (xs.take (i + 1)) = M.sum (xs.take i) + M.cnt xs[i] := by
  rw [List.take_succ_eq_append_getElem h]; unfold Mk.sum; rw [List.map_append, List.sum_append]; simp
theorem Mk.sum_le {α : Type} (M : Mk α) (xs : List α) (i : Nat) : M.sum (xs.take i) ≤ M.sum xs := by
  have h := List.take_append_drop i xs
  have : M.sum xs = M.sum (xs.take i) + M.sum (xs.drop i) := by
    unfold Mk.sum; rw [← List.sum_append, ← List.map_append, h]
  omega
theorem Mk.sum_at {α : Type} (M : Mk α) (xs : List α) (i : Nat) (h : i < xs.length) : M.sum (xs.take i) + M.cnt xs[i] ≤ M.sum xs := by
  rw [← M.sum_step xs i h]; exact M.sum_le _ _
theorem Mk.sum_all {α : Type} (M : Mk α) (xs : List α) (i : Nat) (h : ¬ i < xs.length) : M.sum (xs.take i) = M.sum xs := by rw [List.take_of_length_le (by omega)]
theorem intMk_sum (xs : List Int) : intMk.sum xs = xs.length := by
  unfold Mk.sum intMk
  induction xs with
  | nil => rfl
  | cons x xs ih => simp only [List.map_cons, List.sum_cons, List.length_cons, ih]; omega

/-- the first i are marked, the rest is as it was -/
structure Part {α : Type} (M : Mk α) (k : Int) (xs ys : List α) (i : Nat) : Prop where
  len : ys.length = xs.length
  done : ∀ (j : Nat) (h : j < xs.length) (h2 : j < ys.length), j < i → M.is (k + (M.sum (xs.take j) : Nat)) xs[j] ys[j]
  rest : ∀ (j : Nat) (h : j < xs.length) (h2 : j < ys.length), i ≤ j → ys[j] = xs[j]
theorem Part.zero {α : Type} (M : Mk α) (k : Int) (xs : List α) : Part M k xs xs 0 := ⟨rfl, fun _ _ _ h => by omega, fun _ _ _ _ => rfl⟩
theorem Part.all {α : Type} {M : Mk α} {k : Int} {xs ys : List α} {i : Nat} (h : Part M k xs ys i) (hi : ¬ i < xs.length) : (lstMk M).is k xs ys := ⟨h.len, fun j hj h2 => h.done j hj h2 (by omega)⟩
theorem Part.at_ {α : Type} {M : Mk α} {k : Int} {xs ys : List α} {i : Nat} (h : Part M k xs ys i) (hi : i < xs.length) : ∃ hy : i < ys.length, ys[i] = xs[i] :=
  ⟨by have := h.len; omega, h.rest i hi _ (Nat.le_refl _)⟩
theorem Part.step {α : Type} {M : Mk α} {k : Int} {xs ys : List α} {i : Nat} (h : Part M k xs ys i) (hi : i < xs.length) {y : α} (hy : M.is (k + (M.sum (xs.take i) : Nat)) xs[i] y) : Part M k xs (ys.set i y) (i + 1) := by
  refine ⟨by rw [List.length_set]; exact h.len, fun j hj h2 hlt => ?_, fun j hj h2 hge => ?_⟩
  · rw [List.getElem_set]
    by_cases e : i = j
    · subst e; rw [if_pos rfl]; exact hy
    · rw [if_neg e]; exact h.done j hj _ (by omega)
  · rw [List.getElem_set, if_neg (by omega)]
    exact h.rest j hj _ (by omega)
end Go.Proofs.Ytblggajfdhjmjaa
