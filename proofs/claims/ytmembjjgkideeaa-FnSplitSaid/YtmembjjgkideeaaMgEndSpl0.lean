/-
  SEVERAL SMALL TEXTS LAID TOGETHER: Lib, Own, RegJ, Types, Upd, Ints, Cmp0, Base, Blk4, App, Intss, Fn, Chg, Mem, Shr, Row, CmpI, Mark, Find, AppI, Flat, AppG, Q4, Marks, CopyM, AppN, AppP, DelQ, Cons, App1h.
-/
import Derived.WalkKit
import Derived.WalkSpells
import Derived.WalkLawsBesides
import Derived.ProofKit
import Derived.Deep.Slices
import Derived.Deep.Fields
import Derived.Deep.QuietTactic
import Derived.BigQuiet
import Derived.StillTailTactics
import Derived.OrdersHeld
import Derived.Test.YtmembjjgkideeaaRows
import Derived.Maps.AppendAt
import Derived.Deep.AppendLies
import Derived.Lib.SliceRun
import Derived.Laws.IdiomCopy
import Derived.Laws.OwnMore

namespace Go.Proofs.Ytmembjjgkideeaa
open Go.RowKit Go.ChangeShapes Go.WideShapes

/-- a fact kept from the walk -/
theorem hid {p : Prop} (h : p) : Hid p := h

theorem ret_int {k : IntKind} {a b : Int} (h : a = b) : Ending.returned (.int k a) = .returned (.int k b) := by rw [h]
theorem ret_bool {a b : Bool} (h : a = b) : Ending.returned (.bool a) = .returned (.bool b) := by rw [h]

/-- are they one? -/
noncomputable def eqB {α : Type} (x y : α) : Bool := @decide (x = y) (Classical.propDecidable _)
theorem eqB_iff {α : Type} (x y : α) : eqB x y = true ↔ x = y := by unfold eqB; exact @decide_eq_true_iff _ (Classical.propDecidable _)
theorem eqB_self {α : Type} (x : α) : eqB x x = true := (eqB_iff x x).2 rfl
theorem eqB_true {α : Type} {x y : α} (h : x = y) : eqB x y = true := (eqB_iff x y).2 h
theorem eqB_false {α : Type} {x y : α} (h : ¬ x = y) : eqB x y = false := by
  cases hb : eqB x y
  · rfl
  · exact absurd ((eqB_iff x y).1 hb) h
theorem ne_of_at {α : Type} {xs ys : List α} {k : Nat} (h1 : k < xs.length) (h2 : k < ys.length) (h : ¬ xs[k] = ys[k]) : ¬ xs = ys := fun e => by subst e; exact h rfl
theorem take_snoc_eq {α : Type} {xs ys : List α} {k : Nat} (h1 : k < xs.length) (h2 : k < ys.length) (h : xs[k] = ys[k]) (ht : xs.take k = ys.take k) : xs.take (k + 1) = ys.take (k + 1) := by
  rw [List.take_succ_eq_append_getElem h1, List.take_succ_eq_append_getElem h2, ht, h]
theorem eq_of_take {α : Type} {xs ys : List α} {k : Nat} (h1 : ¬ k < xs.length) (hl : xs.length = ys.length) (ht : xs.take k = ys.take k) : xs = ys := by
  rwa [List.take_of_length_le (by omega), List.take_of_length_le (by omega)] at ht

/-- '==' on strings, as the walk writes it -/
theorem str_eq {a b : ByteArray} (h : a = b) : (a.toList == b.toList) = true := by simp [h]
theorem str_ne {a b : ByteArray} (h : ¬ a = b) : (a.toList == b.toList) = false := by
  rw [beq_eq_false_iff_ne]
  intro e
  rw [ByteArray.toList_eq, ByteArray.toList_eq] at e
  exact h (bytes_inj e)

/-- all that there was in w stands in w2 -/
def Ext (w w2 : World) : Prop := Below w.heap.size w w2
theorem Ext.refl (w : World) : Ext w w := Below.refl _ _
theorem Ext.trans {a b c : World} (h : Ext a b) (k : Ext b c) : Ext a c := Below.trans h (Below.mono k h.size)
theorem Ext.size {a b : World} (h : Ext a b) : a.heap.size ≤ b.heap.size := Below.size h
theorem Ext.drew {a b : World} (h : Ext a b) : Ext a b.drew := Below.drew h
theorem Ext.drewN {a b : World} (h : Ext a b) (n : Nat) : Ext a (b.drewN n) := ⟨h.os, h.tape, h.output, h.size, h.block⟩
theorem Ext.alloc {a b : World} (h : Ext a b) (o : Obj) : Ext a (b.alloc o) := Below.alloc h h.size o
theorem Ext.setCell {a b : World} (h : Ext a b) {p : Addr} (hp : a.heap.size ≤ p.block) (u : Value) : Ext a (b.setCell p u) := Below.setCell h hp u
theorem Ext.grown {a b c : World} {row : Option Nat} (h : Ext a b) (hg : b.grownBy c row) (hr : ∀ k, row = some k → a.heap.size ≤ k) : Ext a c := Below.grown h hg h.size hr
theorem Ext.cell {a b : World} (h : Ext a b) {p : Addr} {u : Value} (hc : a.cell? p = some u) : b.cell? p = some u :=
  (Below.cell h (World.block_lt_of_cell? a p hc)).trans hc
theorem Ext.block {a b : World} (h : Ext a b) {k : Nat} (hk : k < a.heap.size) : b.heap[k]? = a.heap[k]? := Below.block h k hk

theorem Ext.cells {a b : World} (h : Ext a b) : (∀ k o, k < a.heap.size → b.cell? ⟨k, o, none⟩ = a.cell? ⟨k, o, none⟩) ∧ (∀ k o, k < a.heap.size → b.frozen? ⟨k, o, none⟩ = a.frozen? ⟨k, o, none⟩) :=
  ⟨fun k o hk => Below.cell h (p := ⟨k, o, none⟩) hk, fun k o hk => Below.frozen h (p := ⟨k, o, none⟩) hk⟩
/-- a block of the call's own that was laid last: it stands -/
theorem Ext.box {w w2 : World} {cs : Array Value} {T : TypeId} (h : Ext (w.alloc (.cells cs T)) w2) :
    (∀ i, w2.cell? ⟨w.heap.size, i, none⟩ = cs[i]?) ∧ (∀ i, w2.frozen? ⟨w.heap.size, i, none⟩ = false) := by
  have hh : w2.heap[w.heap.size]? = some (.cells cs T (0, 0)) := (Below.block h w.heap.size (by simp)).trans (heap_alloc_new w _)
  exact ⟨fun i => cell_of_row w2 w.heap.size i cs T (0, 0) hh, fun i => frozen_of_row w2 w.heap.size i cs T hh⟩
theorem Ext.box1 {w w2 : World} {o : Obj} {cs : Array Value} {T : TypeId} (h : Ext ((w.alloc o).alloc (.cells cs T)) w2) :
    (∀ i, w2.cell? ⟨w.heap.size + 1, i, none⟩ = cs[i]?) ∧ (∀ i, w2.frozen? ⟨w.heap.size + 1, i, none⟩ = false) := by
  have := h.box
  simpa using this
theorem Ext.box2 {w w2 : World} {o o2 : Obj} {cs : Array Value} {T : TypeId} (h : Ext (((w.alloc o).alloc o2).alloc (.cells cs T)) w2) :
    (∀ i, w2.cell? ⟨w.heap.size + 1 + 1, i, none⟩ = cs[i]?) ∧ (∀ i, w2.frozen? ⟨w.heap.size + 1 + 1, i, none⟩ = false) := by
  have := h.box
  simpa using this
theorem Ext.of_eq {a b : World} (h : a = b) : Ext a b := h ▸ Ext.refl a

/-! ### A region that draws its order: reads and quiet calls, then one operation that writes -/
theorem still_of_quiet {P : Program} {ops : Array Oper} {w : World} {Q : Act → Prop} : ∀ (l : List Oper) (a : Act), wpQuiet P ops (fun w2 => w2 = w) Q l a → wpStill P ops w Q l a
  | [], _, h => h
  | o :: l, a, h => by
    unfold wpQuiet at h
    unfold wpStill
    split
    · rename_i hw
      rw [if_pos hw] at h
      obtain ⟨v, h1, h2⟩ := h
      have h3 := h1 w rfl
      unfold Oper.quietAt at h3
      unfold Oper.still
      generalize (execOp a.eval o).run P w = r at h3 ⊢
      cases r with
      | ok n w2 =>
        cases n <;> simp only [Oper.quietUpon] at h3 <;> simp only [Oper.stillUpon]
        case value u => exact ⟨h3.1, by rw [h3.2]; exact still_of_quiet l _ h2⟩
        case skip => exact ⟨h3.1, by rw [← h3.2]; exact still_of_quiet l _ h2⟩
        case enter f args => exact ⟨h3.1, v, h3.2, still_of_quiet l _ h2⟩
      | halt x w2 => simp only [Oper.quietUpon] at h3
    · rename_i hw
      rw [if_neg hw] at h
      exact still_of_quiet l _ h
theorem wp_region_tail {P : Program} {id : Nat} {Q : Exit → Act → World → Prop} {a : Act} {w wd : World} {l : List Oper} (n : Nat) (hw : wd = w.drew) (hm : P.follows .mixedOrders = true) (hB : Region.lexTailB .any l.toArray n = true)
    (h : wpQuiet P l.toArray (fun w2 => ∃ _ : Unit, w2 = wd) (fun a2 => wpList P l.toArray Q (l.drop n) a2 wd) (l.take n) a) : (Code.region id l.toArray true).wp P Q a w := by
  subst hw
  refine wp_region_still_tail n hm hB (still_of_quiet _ _ ?_)
  have e : (fun w2 : World => ∃ _ : Unit, w2 = w.drew) = fun w2 => w2 = w.drew := funext fun w2 => propext ⟨fun ⟨_, h⟩ => h, fun h => ⟨(), h⟩⟩
  rwa [e] at h

/-! ### A region that draws its order: its operations read, its calls hand back values that hang on no world -/
def ExtOf (W : World) := {w1 : World // Ext W w1}
instance (W : World) : Nonempty (ExtOf W) := ⟨⟨W, Ext.refl W⟩⟩
theorem Ext.boxes {w W : World} {cs : Array Value} {T : TypeId} (h : Ext (w.alloc (.cells cs T)) W) :
    (∀ i, W.cell? ⟨w.heap.size, i, none⟩ = cs[i]?) ∧ ∀ z : ExtOf W, ∀ i, z.1.cell? ⟨w.heap.size, i, none⟩ = cs[i]? :=
  ⟨h.box.1, fun z => (h.trans z.2).box.1⟩
theorem Ext.boxes1 {w W : World} {o : Obj} {cs : Array Value} {T : TypeId} (h : Ext ((w.alloc o).alloc (.cells cs T)) W) :
    (∀ i, W.cell? ⟨w.heap.size + 1, i, none⟩ = cs[i]?) ∧ ∀ z : ExtOf W, ∀ i, z.1.cell? ⟨w.heap.size + 1, i, none⟩ = cs[i]? :=
  ⟨h.box1.1, fun z => (h.trans z.2).box1.1⟩
theorem wp_region_ext {P : Program} {id : Nat} {Q : Exit → Act → World → Prop} {a : Act} {w : World} {l : List Oper} (hm : P.follows .mixedOrders = true) (hB : Region.lexB .any l.toArray = true)
    (h : wpQuiet P l.toArray (fun w1 => ∃ z : ExtOf w, w1 = z.1) (fun a2 => ∀ w1, (∃ z : ExtOf w, w1 = z.1) → Q .normal a2 w1) l a) : (Code.region id l.toArray true).wp P Q a w :=
  wp_region_quiet (C := fun w1 => ∃ z : ExtOf w, w1 = z.1) hm hB ⟨⟨_, (Ext.refl w).drew⟩, rfl⟩ (by simpa using h)
theorem quiet_ext {P : Program} {f : FuncId} {args : Array Value} {W : World} {z : ExtOf W} {v : Value} (h : Calls P f args z.1 fun e w2 => e = .returned v ∧ Ext z.1 w2) :
    Calls P f args z.1 fun e w2 => e = .returned v ∧ ∃ z2 : ExtOf W, w2 = z2.1 :=
  h.mono fun _ w2 ⟨he, hx⟩ => ⟨he, ⟨w2, z.2.trans hx⟩, rfl⟩
theorem quiet_tail {P : Program} {f : FuncId} {args : Array Value} {W : World} {v : Value} (h : Calls P f args W fun e w2 => e = .returned v ∧ W = w2) :
    Calls P f args W fun e w2 => e = .returned v ∧ w2 = W :=
  h.mono fun _ _ ⟨he, hx⟩ => ⟨he, hx.symm⟩
theorem quiet_same {P : Program} {f : FuncId} {args : Array Value} {W : World} {z : ExtOf W} {v : Value} (h : Calls P f args z.1 fun e w2 => e = .returned v ∧ z.1 = w2) :
    Calls P f args z.1 fun e w2 => e = .returned v ∧ ∃ z2 : ExtOf W, w2 = z2.1 :=
  h.mono fun _ _ ⟨he, hx⟩ => ⟨he, z, hx.symm⟩

def I64 (x : Int) : Prop := -9223372036854775808 ≤ x ∧ x ≤ 9223372036854775807
theorem I64.out {x : Int} (h : I64 x) : -9223372036854775808 ≤ x ∧ x ≤ 9223372036854775807 := h

/-- How a value of a Lean type lies in n cells. -/
structure Rep (α : Type) where
  n : Nat
  rd : World → List Value → α → Prop
  len : ∀ {w cs x}, rd w cs x → cs.length = n
  mono : ∀ {w w2 cs x}, Ext w w2 → rd w cs x → rd w2 cs x

def intR : Rep Int := ⟨1, fun _ cs x => cs = [.int .i64 x] ∧ I64 x, fun h => by simp [h.1], fun _ h => h⟩
def boolR : Rep Bool := ⟨1, fun _ cs x => cs = [.bool x], fun h => by rw [h]; rfl, fun _ h => h⟩
def strR : Rep ByteArray := ⟨1, fun _ cs s => cs = [.string s] ∧ s.size ≤ maxLen, fun h => by simp [h.1], fun _ h => h⟩

/-- the slice value v reads as the list xs -/
def Sl {α : Type} (R : Rep α) (w : World) (v : Value) (xs : List α) : Prop :=
  ∃ A cap, v = .slice A xs.length cap ∧ (xs.length ≤ cap ∧ cap ≤ maxLen) ∧ ∀ i (h : i < xs.length), ∃ b off cs, A = some ⟨b, off, none⟩ ∧ R.rd w cs xs[i] ∧
    ∀ j, j < R.n → w.cell? ⟨b, off + i * R.n + j, none⟩ = cs[j]?

theorem Sl.mono {α : Type} {R : Rep α} {w w2 : World} {v : Value} {xs : List α} (e : Ext w w2) (h : Sl R w v xs) : Sl R w2 v xs := by
  obtain ⟨A, cap, rfl, hm, hi⟩ := h
  refine ⟨A, cap, rfl, hm, fun i h => ?_⟩
  obtain ⟨b, off, cs, rfl, hr, hc⟩ := hi i h
  refine ⟨b, off, cs, rfl, R.mono e hr, fun j hj => ?_⟩
  have hl := R.len hr
  have hj' : j < cs.length := by omega
  have h1 := hc j hj
  rw [List.getElem?_eq_getElem hj'] at h1 ⊢
  exact e.cell h1

def slR {α : Type} (R : Rep α) : Rep (List α) := ⟨1, fun w cs xs => ∃ v, cs = [v] ∧ Sl R w v xs, fun ⟨_, h, _⟩ => by rw [h]; rfl, fun e ⟨v, h, k⟩ => ⟨v, h, k.mono e⟩⟩

/-- at index i: the address, and the cells -/
theorem Sl.at_ {α : Type} {R : Rep α} {w : World} {A : Option Addr} {n cap : Nat} {xs : List α} (h : Sl R w (.slice A n cap) xs) {i : Nat} (hi : i < xs.length) :
    ∃ b off cs, A = some ⟨b, off, none⟩ ∧ R.rd w cs xs[i] ∧ ∀ j, j < R.n → w.cell? ⟨b, off + i * R.n + j, none⟩ = cs[j]? := by
  obtain ⟨A', cap', he, hm, hh⟩ := h
  injection he with e1 e2 e3
  subst e1
  exact hh i hi
theorem Sl.cap_ {α : Type} {R : Rep α} {w : World} {A : Option Addr} {n cap : Nat} {xs : List α} (h : Sl R w (.slice A n cap) xs) : n = xs.length ∧ xs.length ≤ cap ∧ cap ≤ 9223372036854775807 := by
  obtain ⟨A', cap', he, hm, hh⟩ := h
  injection he with e1 e2 e3
  subst e3
  unfold maxLen at hm
  exact ⟨e2, hm.1, by omega⟩
/-- the first k, 's[:k]' -/
theorem Sl.take {α : Type} {R : Rep α} {w : World} {A : Option Addr} {n cap k : Nat} {xs : List α} (h : Sl R w (.slice A n cap) xs) (hk : k ≤ xs.length) : Sl R w (.slice A k cap) (xs.take k) := by
  obtain ⟨A', cap', he, hm, hh⟩ := h
  injection he with e1 e2 e3
  subst e1; subst e3
  have hl : (xs.take k).length = k := by simp; omega
  refine ⟨A, cap, by rw [hl], ⟨by omega, hm.2⟩, fun i hi => ?_⟩
  obtain ⟨b, off, cs, h1, h2, h3⟩ := hh i (by omega)
  exact ⟨b, off, cs, h1, by simpa using h2, h3⟩
theorem Sl.form {α : Type} {R : Rep α} {w : World} {v : Value} {xs : List α} (h : Sl R w v xs) : ∃ A cap, v = .slice A xs.length cap ∧ xs.length ≤ 9223372036854775807 := by
  obtain ⟨A, cap, he, hm, _⟩ := h
  exact ⟨A, cap, he, by unfold maxLen at hm; omega⟩

/-- a slice of ints, of bools, of strings: the one cell -/
theorem Sl.int {w : World} {A : Option Addr} {n cap : Nat} {xs : List Int} (h : Sl intR w (.slice A n cap) xs) {i : Nat} (hi : i < xs.length) :
    ∃ b off, A = some ⟨b, off, none⟩ ∧ I64 xs[i] ∧ w.cell? ⟨b, off + i, none⟩ = some (.int .i64 xs[i]) := by
  obtain ⟨b, off, cs, rfl, ⟨rfl, hr⟩, hc⟩ := h.at_ hi
  exact ⟨b, off, rfl, hr, by simpa [intR] using hc 0 (by simp [intR])⟩
theorem Sl.str {w : World} {A : Option Addr} {n cap : Nat} {xs : List ByteArray} (h : Sl strR w (.slice A n cap) xs) {i : Nat} (hi : i < xs.length) :
    ∃ b off, A = some ⟨b, off, none⟩ ∧ xs[i].size ≤ maxLen ∧ w.cell? ⟨b, off + i, none⟩ = some (.string xs[i]) := by
  obtain ⟨b, off, cs, rfl, ⟨rfl, hr⟩, hc⟩ := h.at_ hi
  exact ⟨b, off, rfl, hr, by simpa [strR] using hc 0 (by simp [strR])⟩
theorem Sl.sl {α : Type} {R : Rep α} {w : World} {A : Option Addr} {n cap : Nat} {xs : List (List α)} (h : Sl (slR R) w (.slice A n cap) xs) {i : Nat} (hi : i < xs.length) :
    ∃ b off A2 cap2, A = some ⟨b, off, none⟩ ∧ Sl R w (.slice A2 xs[i].length cap2) xs[i] ∧ w.cell? ⟨b, off + i, none⟩ = some (.slice A2 xs[i].length cap2) := by
  obtain ⟨b, off, cs, rfl, ⟨v, rfl, hr⟩, hc⟩ := h.at_ hi
  have hr' := hr
  obtain ⟨A2, cap2, rfl, _⟩ := hr
  exact ⟨b, off, A2, cap2, rfl, hr', by simpa [slR] using hc 0 (by simp [slR])⟩

/-- a new block of ints, as a slice -/
theorem Sl.new_ints (W : World) (xs : List Int) (T : TypeId) (n g : Nat) (hg : g = W.heap.size) (hn : n = xs.length) (h : ∀ x ∈ xs, I64 x) (hl : xs.length ≤ maxLen) :
    Sl intR (W.alloc (.cells (xs.map (Value.int .i64)).toArray T)) (.slice (some ⟨g, 0, none⟩) n n) xs := by
  subst hg
  subst hn
  refine ⟨_, _, rfl, ⟨Nat.le_refl _, hl⟩, fun i hi => ⟨_, _, _, rfl, ⟨rfl, h _ (List.getElem_mem hi)⟩, fun j hj => ?_⟩⟩
  have hj0 : j = 0 := by simp [intR] at hj; omega
  subst hj0
  rw [((Ext.refl _).box).1]
  simp [intR, hi]

/-! ### Readings of arguments -/

/-- values of type e of program P lie as R says, whenever they can be read -/
def Reads {α : Type} (P : Program) (e : TypeId) (R : Rep α) : Prop :=
  P.cellsOf e = R.n ∧ ∀ {H : Type} {enc : TypeId × Value → H} {w : World} {base : Nat} {spare : Nat → Bool} {held : Bool} {fuel : Nat} {cs : List Value} {x : DataW H × List MemPlace},
    DataW.trod enc P w base spare held fuel e cs = some x → ∃ a, R.rd w cs a

theorem wf_i64 {n : Int} (h : (Lit.int .i64 n).wf = true) : I64 n := by
  simpa [Lit.wf, IntKind.min, IntKind.max, IntKind.signed, IntKind.bits, I64] using h

theorem reads_int {P : Program} {e : TypeId} (he : P.underlying e = some (.int .i64)) (hc : P.cellsOf e = 1) : Reads P e intR :=
  ⟨hc, fun h => by
    obtain ⟨n, rfl, _, hw⟩ := DataW.trod_int he h
    exact ⟨n, rfl, wf_i64 hw⟩⟩
theorem reads_bool {P : Program} {e : TypeId} (he : P.underlying e = some .bool) (hc : P.cellsOf e = 1) : Reads P e boolR :=
  ⟨hc, fun h => by
    obtain ⟨n, rfl, _⟩ := DataW.trod_bool he h
    exact ⟨n, rfl⟩⟩
theorem reads_string {P : Program} {e : TypeId} (he : P.underlying e = some .string) (hc : P.cellsOf e = 1) : Reads P e strR :=
  ⟨hc, fun h => by
    obtain ⟨n, rfl, _, hs⟩ := DataW.trod_string he h
    exact ⟨n, rfl, hs⟩⟩

theorem choose_list {α : Type} {n : Nat} {p : Nat → α → Prop} (h : ∀ i, i < n → ∃ x, p i x) : ∃ l : List α, l.length = n ∧ ∀ i (hi : i < l.length), p i l[i] := by
  induction n with
  | zero => exact ⟨[], rfl, fun i hi => by simp at hi⟩
  | succ n ih =>
    obtain ⟨l, hl, hp⟩ := ih (fun i hi => h i (by omega))
    obtain ⟨x, hx⟩ := h n (by omega)
    refine ⟨l ++ [x], by simp [hl], fun i hi => ?_⟩
    by_cases hin : i < l.length
    · rw [List.getElem_append_left hin]; exact hp i hin
    · have : i = n := by simp at hi; omega
      subst this
      rw [List.getElem_append_right (by omega)]
      simpa [hl] using hx

theorem spot_none {w : World} {a : Addr} {u : Value} (h : w.cell? a = some u) : a.spot = none := by
  unfold World.cell? at h
  split at h
  · cases hs : a.spot with
    | none => rfl
    | some _ => simp [hs] at h
  · cases h

theorem add_eq {b off n : Nat} : (⟨b, off, none⟩ : Addr).add n = ⟨b, off + n, none⟩ := by
  unfold Addr.add; split <;> simp_all

theorem reads_slice {α : Type} {P : Program} {t e : TypeId} {R : Rep α} (ht : P.underlying t = some (.slice e)) (hc : P.cellsOf t = 1) (hn : 0 < R.n) (he : Reads P e R) : Reads P t (slR R) := by
  refine ⟨hc, fun {H enc w base spare held fuel cs x} h => ?_⟩
  rcases DataW.trod_slice ht h with ⟨rfl, _⟩ | ⟨a, len, cap, elems, rest, n, _, rfl, _, _, hl, hm, hel, hi, _⟩
  · exact ⟨[], _, rfl, none, 0, rfl, ⟨Nat.le_refl _, Nat.zero_le _⟩, fun i hi => by simp at hi⟩
  · have key : ∀ i, i < len → ∃ y : α, ∃ cs, R.rd w cs y ∧ ∀ j, j < R.n → w.cell? (a.add (i * R.n + j)) = cs[j]? := by
      intro i hilt
      have h1 := hi i hilt
      have h2 : elems[i]? = some (elems[i]'(by omega)) := List.getElem?_eq_getElem (by omega)
      rw [h2, he.1] at h1
      obtain ⟨cs', hcs, htr⟩ := Option.bind_eq_some_iff.1 h1
      obtain ⟨y, hy⟩ := he.2 htr
      obtain ⟨_, _, hat⟩ := World.cells?_some hcs
      exact ⟨y, cs', hy, fun j hj => by rw [← Go.Deep.add_add]; exact hat j hj⟩
    obtain ⟨xs, hxl, hxs⟩ := choose_list key
    subst hxl
    refine ⟨xs, _, rfl, some a, cap, rfl, ⟨hl, hm⟩, fun i hi' => ?_⟩
    obtain ⟨cs', hy, hcell⟩ := hxs i hi'
    have hl0 : ∃ u, w.cell? (a.add (0 * R.n + 0)) = some u := by
      obtain ⟨cs0, hr0, hc0⟩ := hxs 0 (by omega)
      have := R.len hr0
      exact ⟨cs0[0]'(by omega), by rw [hc0 0 hn, List.getElem?_eq_getElem]⟩
    obtain ⟨u, hu⟩ := hl0
    have hsp : a.spot = none := by
      have := spot_none hu
      simpa [Addr.add] using this
    obtain ⟨b, off, sp⟩ := a
    simp only at hsp
    subst hsp
    refine ⟨b, off, cs', rfl, hy, fun j hj => ?_⟩
    have := hcell j hj
    rw [add_eq] at this
    rw [Nat.add_assoc]; exact this

/-- a field of a struct -/
theorem Reads.field {α H : Type} {P : Program} {t : TypeId} {fs : Array Field} {R : Rep α} {enc : TypeId × Value → H} {w : World} {base : Nat} {spare : Nat → Bool} {held : Bool} {fuel : Nat} {cs : List Value} {x : DataW H × List MemPlace}
    (ht : P.underlying t = some (.struct fs)) (h : DataW.trod enc P w base spare held fuel t cs = some x) (i : Nat) (f : Field) (hf : fs[i]? = some f) (hr : Reads P f.type R) :
    ∃ a, R.rd w ((cs.drop f.offset).take R.n) a := by
  obtain ⟨xs, n, _, _, _, hl, hi⟩ := DataW.trod_struct ht h
  have h1 := hi i f hf
  have hlt : i < fs.size := (Array.getElem?_eq_some_iff.1 hf).1
  rw [List.getElem?_eq_getElem (by omega), hr.1] at h1
  exact hr.2 h1
theorem struct_len {H : Type} {P : Program} {t : TypeId} {fs : Array Field} {enc : TypeId × Value → H} {w : World} {base : Nat} {spare : Nat → Bool} {held : Bool} {fuel : Nat} {cs : List Value} {x : DataW H × List MemPlace}
    (ht : P.underlying t = some (.struct fs)) (h : DataW.trod enc P w base spare held fuel t cs = some x) : cs.length = P.cellsOf t := by
  obtain ⟨xs, n, _, _, hl, _⟩ := DataW.trod_struct ht h
  exact hl

/-- an argument that is a struct -/
theorem arg_struct {α H : Type} {P : Program} {t : TypeId} {fs : Array Field} {R : Rep α} {enc : TypeId × Value → H} {w : World} {r : Reach} {b0 base : Nat} {spare : Nat → Bool} {held : Bool} {v : Value} {d : DataW H} {p : List MemPlace}
    (ht : P.underlying t = some (.struct fs)) (hr : Reads P t R) (hv : Value.okWide P w r b0 t v) (h : DataW.Trod enc P w base spare held t v d p) : ∃ cs x, v = .agg cs.toArray ∧ R.rd w cs x := by
  obtain ⟨cs, rfl, _⟩ := okWide_struct ht hv
  obtain ⟨fuel, hf⟩ := h
  obtain ⟨x, hx⟩ := hr.2 hf
  exact ⟨cs.toList, x, by simp, by simpa [Value.cells] using hx⟩
/-- an argument that is a slice -/
theorem arg_slice {α H : Type} {P : Program} {t e : TypeId} {R : Rep α} {enc : TypeId × Value → H} {w : World} {r : Reach} {b0 base : Nat} {spare : Nat → Bool} {held : Bool} {v : Value} {d : DataW H} {p : List MemPlace}
    (ht : P.underlying t = some (.slice e)) (hr : Reads P t (slR R)) (hv : Value.okWide P w r b0 t v) (h : DataW.Trod enc P w base spare held t v d p) : ∃ xs, Sl R w v xs := by
  obtain ⟨a, n, c, rfl⟩ := okWide_slice ht hv
  obtain ⟨fuel, hf⟩ := h
  obtain ⟨xs, v', hx, hs⟩ := hr.2 hf
  simp [Value.cells] at hx
  subst hx
  exact ⟨xs, hs⟩

/-! ### The end of a law -/

theorem args_below {H : Type} {enc : TypeId × Value → H} {P : Program} (hl : laidOutB P = true) {W W2 : World} (hb : Below W.heap.size W W2) :
    ∀ {ts : List TypeId} {vs : List Value} {ds : List (DataW H)} {ps : List MemPlace}, (∀ t ∈ ts, P.readableRec t = true ∧ t < P.types.size) → DataW.TrodAll enc P W 0 (fun _ => true) true ts vs ds ps →
      (∀ x ∈ ps, x.block < W.heap.size) → DataW.TrodAll enc P W2 0 (fun b => decide (b < W.heap.size)) true ts vs ds ps
  | [], _, _, _, _, h, _ => by
    obtain ⟨rfl, rfl, rfl⟩ := trodAll_nil h
    exact rfl
  | t :: ts, _, _, _, hr, h, hlt => by
    obtain ⟨v, vs1, d, ds1, a, b, rfl, rfl, rfl, h1, h2⟩ := trodAll_cons h
    refine ⟨a, b, ?_, args_below hl hb (fun t ht => hr t (List.mem_cons_of_mem _ ht)) h2 (fun x hx => hlt x (List.mem_append_right _ hx)), rfl⟩
    exact Below.trod hl (hr t (List.mem_cons_self ..)).1 (hr t (List.mem_cons_self ..)).2 h1 hb (fun x hx => hlt x (List.mem_append_left _ hx))

/-- What a law's walk owes: true, and all that there was stands. -/
theorem law_post {H : Type} {enc : TypeId × Value → H} {P : Program} {f : FuncId} {fn : Func} {s : ChangeSpec} {tb : TypeId} (hl : laidOutB P = true)
    (hr : ∀ t ∈ fn.params.toList, P.readableRec t = true ∧ t < P.types.size) (hres : fn.resultTypes = #[tb]) (htb : P.underlying tb = some .bool) (hv : s.vars = [])
    {W : World} {args : Array Value} {ds gs : List (DataW H)} {before : List MemPlace} (hs : s.fn H ds = { results := [.lit (.bool true)], args := ds })
    (hW : DataW.Whole enc P fn.params.toList s.vars false W args.toList ds gs before)
    (h : Calls P f args W fun e W2 => e = .returned (.bool true) ∧ Ext W W2) :
    Calls P f args W fun e W2 => ∃ v, e = .returned v ∧ s.post enc P fn false true false false W args v W2 := by
  refine h.mono fun e W2 ⟨he, hb⟩ => ⟨_, he, ?_⟩
  have hlt : ∀ p ∈ before, p.block < W.heap.size := fun p hp => hW.lt p hp
  have hW0 := hW
  obtain ⟨p, q, hA, hV, rfl, _, _⟩ := hW
  rw [hv] at hV
  obtain ⟨rfl, rfl⟩ := trodVars_none hV
  simp only [List.append_nil] at hlt hW0
  refine ⟨ds, [], p, [], p, [], hW0, ?_, ?_, ?_, World.keptBut_mono (fun x hx => ⟨hx, .inr (.inl hx)⟩) (Below.frame hb (· ∈ p)), fun h => by cases h⟩
  · rw [List.append_nil, hs, hres]
    exact trodAll_mk1 (shut_bool htb true)
  · rw [List.append_nil, hs]
    exact args_below hl hb hr hA hlt
  · rw [List.append_nil, hs, hv]
    exact rfl

end Go.Proofs.Ytmembjjgkideeaa

namespace Go.Proofs.Ytmembjjgkideeaa
open Go.RowKit

structure RepO (α : Type) extends Rep α where
  own : World → List Value → α → List Nat → Prop
  own_rd : ∀ {w cs x F}, own w cs x F → rd w cs x
  own_lt : ∀ {w cs x F}, own w cs x F → ∀ b ∈ F, b < w.heap.size
  own_keep : ∀ {w w2 cs x F}, (∀ b ∈ F, w2.heap[b]? = w.heap[b]?) → own w cs x F → own w2 cs x F

/-- data without pointers own nothing -/
def flatO {α : Type} (R : Rep α) (hf : ∀ w w2 cs x, R.rd w cs x → R.rd w2 cs x) : RepO α :=
  { R with
    own := fun w cs x F => R.rd w cs x ∧ F = []
    own_rd := fun h => h.1
    own_lt := fun h b hb => by rw [h.2] at hb; cases hb
    own_keep := fun _ h => ⟨hf _ _ _ _ h.1, h.2⟩ }
def intO : RepO Int := flatO intR fun _ _ _ _ h => h
def boolO : RepO Bool := flatO boolR fun _ _ _ _ h => h
def strO : RepO ByteArray := flatO strR fun _ _ _ _ h => h

def OwnCells {α : Type} (R : RepO α) (w : World) : List Value → List α → List Nat → Prop
  | cs, [], F => cs = [] ∧ F = []
  | cs, x :: xs, F => ∃ c d F1 F2, cs = c ++ d ∧ F = F1 ++ F2 ∧ R.own w c x F1 ∧ OwnCells R w d xs F2

section
variable {α : Type} {R : RepO α} {w w2 : World} {cs ds : List Value} {xs ys : List α} {F G : List Nat}
theorem OwnCells.nil : OwnCells R w [] [] [] := ⟨rfl, rfl⟩
theorem OwnCells.length : ∀ {xs : List α} {cs : List Value} {F : List Nat}, OwnCells R w cs xs F → cs.length = xs.length * R.n
  | [], _, _, h => by rw [h.1]; simp
  | x :: xs, _, _, ⟨c, d, F1, F2, h1, _, h2, h3⟩ => by
    rw [h1, List.length_append, R.len (R.own_rd h2), OwnCells.length h3, List.length_cons, Nat.add_mul]; omega
theorem OwnCells.lt : ∀ {xs : List α} {cs : List Value} {F : List Nat}, OwnCells R w cs xs F → ∀ b ∈ F, b < w.heap.size
  | [], _, _, h, b, hb => by rw [h.2] at hb; cases hb
  | x :: xs, _, _, ⟨c, d, F1, F2, _, h1, h2, h3⟩, b, hb => by
    rw [h1] at hb
    rcases List.mem_append.1 hb with hb | hb
    · exact R.own_lt h2 b hb
    · exact OwnCells.lt h3 b hb
theorem OwnCells.keep : ∀ {xs : List α} {cs : List Value} {F : List Nat}, (∀ b ∈ F, w2.heap[b]? = w.heap[b]?) → OwnCells R w cs xs F → OwnCells R w2 cs xs F
  | [], _, _, _, h => h
  | x :: xs, _, _, hk, ⟨c, d, F1, F2, h0, h1, h2, h3⟩ => by
    subst h1
    exact ⟨c, d, F1, F2, h0, rfl, R.own_keep (fun b hb => hk b (List.mem_append_left _ hb)) h2, OwnCells.keep (fun b hb => hk b (List.mem_append_right _ hb)) h3⟩
theorem OwnCells.append : ∀ {xs : List α} {cs : List Value} {F : List Nat}, OwnCells R w cs xs F → OwnCells R w ds ys G → OwnCells R w (cs ++ ds) (xs ++ ys) (F ++ G)
  | [], _, _, h, k => by rw [h.1, h.2]; exact k
  | x :: xs, _, _, ⟨c, d, F1, F2, h0, h1, h2, h3⟩, k => by
    subst h0; subst h1
    exact ⟨c, d ++ ds, F1, F2 ++ G, by simp, by simp, h2, OwnCells.append h3 k⟩
theorem OwnCells.one {x : α} {c : List Value} (h : R.own w c x F) : OwnCells R w c [x] F := ⟨c, [], F, [], by simp, by simp, h, rfl, rfl⟩
theorem OwnCells.snoc {x : α} {c : List Value} (h : OwnCells R w cs xs F) (k : R.own w c x G) : OwnCells R w (cs ++ c) (xs ++ [x]) (F ++ G) := h.append (.one k)
/-- parted at index i -/
theorem OwnCells.split : ∀ {xs : List α} {cs : List Value} {F : List Nat} (i : Nat) (_ : OwnCells R w cs xs F) (hi : i < xs.length),
    ∃ c0 c c1 F0 F1 F2, cs = c0 ++ (c ++ c1) ∧ F = F0 ++ (F1 ++ F2) ∧ c0.length = i * R.n ∧ c.length = R.n ∧ OwnCells R w c0 (xs.take i) F0 ∧ R.own w c xs[i] F1 ∧ OwnCells R w c1 (xs.drop (i + 1)) F2
  | [], _, _, i, _, hi => by simp at hi
  | x :: xs, _, _, 0, ⟨c, d, F1, F2, h0, h1, h2, h3⟩, _ => ⟨[], c, d, [], F1, F2, by simpa using h0, by simpa using h1, by simp, R.len (R.own_rd h2), OwnCells.nil, h2, by simpa using h3⟩
  | x :: xs, _, _, i + 1, ⟨c, d, F1, F2, h0, h1, h2, h3⟩, hi => by
    obtain ⟨c0, c', c1, G0, G1, G2, e0, e1, e2, e3, k0, k1, k2⟩ := OwnCells.split i h3 (by simpa using hi)
    refine ⟨c ++ c0, c', c1, F1 ++ G0, G1, G2, by rw [h0, e0]; simp, by rw [h1, e1]; simp, ?_, e3, ?_, by simpa using k1, by simpa using k2⟩
    · rw [List.length_append, R.len (R.own_rd h2), e2, Nat.add_mul]; omega
    · exact ⟨c, c0, F1, G0, rfl, rfl, h2, k0⟩
theorem OwnCells.rd (h : OwnCells R w cs xs F) {i : Nat} (hi : i < xs.length) : ∃ c, R.rd w c xs[i] ∧ ∀ j, j < R.n → cs[i * R.n + j]? = c[j]? := by
  obtain ⟨c0, c, c1, F0, F1, F2, rfl, rfl, e2, e3, _, k1, _⟩ := h.split i hi
  refine ⟨c, R.own_rd k1, fun j hj => ?_⟩
  rw [List.getElem?_append_right (by omega), e2, show i * R.n + j - i * R.n = j by omega, List.getElem?_append_left (by omega)]
end

/-- the slice v is the list xs, in blocks of its own -/
def OwnSl {α : Type} (R : RepO α) (w : World) (v : Value) (xs : List α) (F : List Nat) : Prop :=
  (xs = [] ∧ F = [] ∧ ∃ A cap, v = .slice A 0 cap ∧ cap ≤ maxLen) ∨
  ∃ g off cap cur e F2, v = .slice (some ⟨g, off, none⟩) xs.length cap ∧ (xs.length ≤ cap ∧ cap ≤ maxLen) ∧ w.heap[g]? = some (.cells cur e (0, 0)) ∧ F = g :: F2 ∧
    off + xs.length * R.n ≤ cur.size ∧ OwnCells R w ((cur.toList.drop off).take (xs.length * R.n)) xs F2

section
variable {α : Type} {R : RepO α} {w w2 : World} {v : Value} {xs : List α} {F : List Nat}
theorem block_lt {g : Nat} {o : Obj} (h : w.heap[g]? = some o) : g < w.heap.size := (Array.getElem?_eq_some_iff.1 h).1
theorem OwnSl.lt (h : OwnSl R w v xs F) : ∀ b ∈ F, b < w.heap.size := by
  rcases h with ⟨_, rfl, _⟩ | ⟨g, off, cap, cur, e, F2, _, _, hg, rfl, _, hc⟩
  · intro b hb; cases hb
  · intro b hb
    rcases List.mem_cons.1 hb with rfl | hb
    · exact block_lt hg
    · exact hc.lt b hb
theorem OwnSl.keep (h : OwnSl R w v xs F) (hk : ∀ b ∈ F, w2.heap[b]? = w.heap[b]?) : OwnSl R w2 v xs F := by
  rcases h with h | ⟨g, off, cap, cur, e, F2, rfl, hm, hg, rfl, hs, hc⟩
  · exact .inl h
  · exact .inr ⟨g, off, cap, cur, e, F2, rfl, hm, (hk g (List.mem_cons_self ..)).trans hg, rfl, hs, hc.keep fun b hb => hk b (List.mem_cons_of_mem _ hb)⟩
theorem OwnSl.ext (h : OwnSl R w v xs F) (e : Ext w w2) : OwnSl R w2 v xs F := h.keep fun b hb => e.block (h.lt b hb)
theorem OwnSl.sl (h : OwnSl R w v xs F) : Sl R.toRep w v xs := by
  rcases h with ⟨rfl, _, A, cap, rfl, hcm⟩ | ⟨g, off, cap, cur, e, F2, rfl, hm, hg, rfl, hs, hc⟩
  · exact ⟨A, cap, rfl, ⟨Nat.zero_le _, hcm⟩, fun i hi => by simp at hi⟩
  · refine ⟨_, cap, rfl, hm, fun i hi => ?_⟩
    obtain ⟨c, hr, hj⟩ := hc.rd hi
    refine ⟨g, off, c, rfl, hr, fun j hjn => ?_⟩
    rw [← hj j hjn, cell_of_row w g _ cur e (0, 0) hg]
    have hlt : i * R.n + j < xs.length * R.n := Nat.lt_of_lt_of_le (by omega : i * R.n + j < i * R.n + R.n) (by rw [← Nat.succ_mul]; exact Nat.mul_le_mul_right _ hi)
    rw [List.getElem?_take, if_pos hlt, List.getElem?_drop]
    simp [Nat.add_assoc]
theorem OwnSl.form (h : OwnSl R w v xs F) : ∃ A cap, v = .slice A xs.length cap ∧ xs.length ≤ 9223372036854775807 := h.sl.form
end

/-- a slice as an element -/
def slO {α : Type} (R : RepO α) : RepO (List α) :=
  { slR R.toRep with
    own := fun w cs xs F => ∃ v, cs = [v] ∧ OwnSl R w v xs F
    own_rd := fun ⟨v, h, k⟩ => ⟨v, h, k.sl⟩
    own_lt := fun ⟨_, _, k⟩ => k.lt
    own_keep := fun hk ⟨v, h, k⟩ => ⟨v, h, k.keep hk⟩ }

/-- blocks that are new since w, each once -/
def NewF (w : World) (F : List Nat) : Prop := F.Nodup ∧ ∀ b ∈ F, w.heap.size ≤ b
theorem NewF.nil (w : World) : NewF w [] := ⟨List.nodup_nil, fun _ h => by cases h⟩
theorem NewF.ext {w w2 : World} {F : List Nat} (e : Ext w w2) (h : NewF w2 F) : NewF w F := ⟨h.1, fun b hb => Nat.le_trans e.size (h.2 b hb)⟩
theorem NewF.append {w w2 : World} {F G : List Nat} (hF : NewF w F) (hG : NewF w2 G) (e : Ext w w2) (hlt : ∀ b ∈ F, b < w2.heap.size) : NewF w (F ++ G) := by
  refine ⟨List.nodup_append.2 ⟨hF.1, hG.1, fun a ha b hb => ?_⟩, fun b hb => ?_⟩
  · have h1 := hlt a ha
    have h2 := hG.2 b hb
    omega
  · rcases List.mem_append.1 hb with hb | hb
    · exact hF.2 b hb
    · exact Nat.le_trans e.size (hG.2 b hb)

/-! ### A block of the call's own, while it is written -/
/-- block g holds the cells cs, none frozen -/
def Blk (w : World) (g : Nat) (e : TypeId) (cs : List Value) : Prop := w.heap[g]? = some (.cells cs.toArray e (0, 0))
theorem Blk.out {w : World} {g : Nat} {e : TypeId} {cs : List Value} (h : Blk w g e cs) : w.heap[g]? = some (.cells cs.toArray e (0, 0)) := h
theorem Blk.new (w : World) (e : TypeId) (cs : Array Value) : Blk (w.alloc (.cells cs e)) w.heap.size e cs.toList := heap_alloc_new w _
theorem Blk.keep {w w2 : World} {g : Nat} {e : TypeId} {cs : List Value} (h : Blk w g e cs) (k : w2.heap[g]? = w.heap[g]?) : Blk w2 g e cs := Eq.trans k h
theorem Blk.ext {w w2 : World} {g : Nat} {e : TypeId} {cs : List Value} (h : Blk w g e cs) (k : Ext w w2) : Blk w2 g e cs := h.keep (k.block (block_lt h))
theorem Blk.cells {w : World} {g : Nat} {e : TypeId} {cs : List Value} (h : Blk w g e cs) : (∀ i, w.cell? ⟨g, i, none⟩ = cs[i]?) ∧ ∀ i, w.frozen? ⟨g, i, none⟩ = false :=
  ⟨fun i => by rw [cell_of_row w g i _ e (0, 0) h]; simp, fun i => frozen_of_row w g i _ e h⟩
theorem Blk.store {w : World} {g : Nat} {done rest : List Value} {z : Value} {e : TypeId} {k : Nat} (h : Blk w g e (done ++ z :: rest)) (hk : done.length = k) (u : Value) :
    Blk (w.setCell ⟨g, k, none⟩ u) g e ((done ++ [u]) ++ rest) := by
  unfold Blk at *
  rw [heap_setCell_same w g k _ e u h]
  subst hk
  simp
theorem Blk.at_ {w : World} {g : Nat} {done rest : List Value} {z : Value} {e : TypeId} {k : Nat} (h : Blk w g e (done ++ z :: rest)) (hk : done.length = k) :
    w.cell? ⟨g, k, none⟩ = some z ∧ w.frozen? ⟨g, k, none⟩ = false := by
  refine ⟨?_, h.cells.2 k⟩
  rw [h.cells.1]
  subst hk
  simp
section
variable {α : Type} {R : RepO α} {w w2 : World} {v : Value} {xs : List α} {F : List Nat}
/-- a row laid whole -/
theorem OwnSl.of_blk {g : Nat} {cs : List Value} {e : TypeId} {F2 : List Nat} (hg : Blk w g e cs) (hm : xs.length ≤ maxLen) (hc : OwnCells R w cs xs F2) :
    OwnSl R w (.slice (some ⟨g, 0, none⟩) xs.length xs.length) xs (g :: F2) :=
  .inr ⟨g, 0, _, _, e, F2, rfl, ⟨Nat.le_refl _, hm⟩, hg, rfl, by simp [hc.length], by simpa [← hc.length] using hc⟩
end
theorem keep_setCell {w : World} {p : Addr} {u : Value} {b : Nat} (h : b ≠ p.block) : (w.setCell p u).heap[b]? = w.heap[b]? := Below.heap_setCell w p u b h

/-- blocks from g + 1 on, each once -/
def FromF (g : Nat) (F : List Nat) : Prop := F.Nodup ∧ ∀ b ∈ F, g < b
theorem FromF.nil (g : Nat) : FromF g [] := ⟨List.nodup_nil, fun _ h => by cases h⟩
theorem FromF.new {g : Nat} {w : World} {F : List Nat} (h : FromF g F) (hg : g = w.heap.size) : NewF w (g :: F) :=
  ⟨List.nodup_cons.2 ⟨fun hm => by have := h.2 g hm; omega, h.1⟩, fun b hb => by
    rcases List.mem_cons.1 hb with rfl | hb
    · omega
    · have := h.2 b hb; omega⟩
/-- one element more: it was made between wr and w2, and stored in block g -/
theorem OwnCells.step {α : Type} {R : RepO α} {wr w2 w3 : World} {g : Nat} {done c : List Value} {xs : List α} {x : α} {F F2 : List Nat} (h : OwnCells R wr done xs F) (hF : FromF g F)
    (hx : Ext wr w2) (ho : R.own w2 c x F2) (hn : NewF wr F2) (hg : g < wr.heap.size) (hk : ∀ b, b ≠ g → w3.heap[b]? = w2.heap[b]?) :
    OwnCells R w3 (done ++ c) (xs ++ [x]) (F ++ F2) ∧ FromF g (F ++ F2) := by
  have h2 : ∀ b ∈ F2, g < b := fun b hb => Nat.lt_of_lt_of_le hg (hn.2 b hb)
  refine ⟨?_, ?_, fun b hb => ?_⟩
  · refine OwnCells.snoc (h.keep fun b hb => ?_) (R.own_keep (fun b hb => hk b (by have := h2 b hb; omega)) ho)
    rw [hk b (by have := hF.2 b hb; omega), hx.block (h.lt b hb)]
  · refine List.nodup_append.2 ⟨hF.1, hn.1, fun a ha b hb => ?_⟩
    have := h.lt a ha
    have := hn.2 b hb
    omega
  · rcases List.mem_append.1 hb with hb | hb
    · exact hF.2 b hb
    · exact h2 b hb

theorem OwnSl.setCell {α : Type} {R : RepO α} {w : World} {v : Value} {xs : List α} {F : List Nat} (h : OwnSl R w v xs F) {p : Addr} (hp : p.block ∉ F) (u : Value) : OwnSl R (w.setCell p u) v xs F :=
  h.keep fun b hb => keep_setCell (fun e => hp (e ▸ hb))
theorem OwnCells.setCell {α : Type} {R : RepO α} {w : World} {cs : List Value} {xs : List α} {F : List Nat} (h : OwnCells R w cs xs F) {p : Addr} (hp : p.block ∉ F) (u : Value) : OwnCells R (w.setCell p u) cs xs F :=
  h.keep fun b hb => keep_setCell (fun e => hp (e ▸ hb))

/-! ### make -/
theorem madeCells_flat (zs : List Value) (n : Nat) : (madeCells zs.toArray (n * zs.length)).toList = (List.replicate n zs).flatten := by
  induction n with
  | zero => simp [madeCells]
  | succ n ih =>
    rw [List.replicate_succ', List.flatten_append, ← ih]
    apply List.ext_getElem?
    intro j
    simp only [madeCells, List.size_toArray, Array.toList_map, Array.toList_range, List.getElem?_map, List.flatten_cons, List.flatten_nil, List.append_nil]
    by_cases h1 : j < n * zs.length
    · rw [List.getElem?_append_left (by simpa using h1)]
      simp [h1, Nat.add_mul, Nat.lt_of_lt_of_le h1]
    · rw [List.getElem?_append_right (by simpa using h1)]
      simp only [List.length_map, List.length_range]
      by_cases h2 : j < (n + 1) * zs.length
      · have h3 : j - n * zs.length < zs.length := by rw [Nat.add_mul] at h2; omega
        have h4 : j % zs.length = j - n * zs.length := by
          have e : zs.length * n + (j - n * zs.length) = j := by rw [Nat.mul_comm zs.length n]; omega
          have h5 : (zs.length * n + (j - n * zs.length)) % zs.length = j - n * zs.length := by rw [Nat.mul_add_mod, Nat.mod_eq_of_lt h3]
          rwa [e] at h5
        simp [h2, h3, h4]
      · have h3 : ¬ j - n * zs.length < zs.length := by rw [Nat.add_mul] at h2; omega
        simp [h2, h3]

theorem run_mk {P : Program} (t e : TypeId) (i : TypeInfo) (z : Value) (zs : List Value) (bytes : Nat) (ht : P.underlying t = some (.slice e)) (hi : P.info? e = some i) (hz : i.zero = some z)
    (hzs : z.cells = zs.toArray) (hsz : i.size = zs.length) (hby : i.bytes = bytes) (n : Nat) (hb : bytes * n ≤ 281474976710656) (h63 : n ≤ 9223372036854775807) :
    ∀ W : World, (Instr.makeSlice t (.int .i64 (n : Int)) (.int .i64 (n : Int))).run P W = .ok (.slice (some ⟨W.heap.size, 0, none⟩) n n) (W.alloc (.cells (List.replicate n zs).flatten.toArray e)) := by
  intro W
  have hb2 : (i.bytes : Int) * (n : Int) ≤ 281474976710656 := by
    have h : ((i.bytes * n : Nat) : Int) ≤ 281474976710656 := by rw [hby]; omega
    rwa [Int.natCast_mul] at h
  have hr := run_make (P := P) W t e i z ht hi hz .i64 .i64 n n (by omega) (Int.le_refl _) hb2 (by omega)
  simp only [Int.toNat_natCast] at hr
  rw [hr, hzs, hsz, ← madeCells_flat]
end Go.Proofs.Ytmembjjgkideeaa

namespace Go.Proofs.Ytmembjjgkideeaa
open Go.RowKit

section
variable {P : Program} {ops : Array Oper} {md : Region.Mode} {Q : Exit → Act → World → Prop} {S : World → Prop} {m : Nat}

def wpAnyJ (P : Program) (md : Region.Mode) (ops : Array Oper) (Q : Exit → Act → World → Prop) (S : World → Prop) (m : Nat) : Nat → Array Bool → Act → World → Prop
  | 0, listed, a, w => Region.ready md ops listed = [] ∧ Q .normal a w
  | f + 1, listed, a, w => (Region.ready md ops listed = [] → Q .normal a w) ∧
    ∀ i ∈ Region.ready md ops listed, wpOp P ops Q i (fun a' w' => (i ≠ m → S w') ∧ wpAnyJ P md ops Q S m f (listed.setIfInBounds i true) a' w') a w

theorem wpAny_of_J : ∀ (f : Nat) (listed : Array Bool) (a : Act) (w : World), wpAnyJ P md ops Q S m f listed a w → wpAny P md ops Q f listed a w
  | 0, _, _, _, h => h
  | f + 1, _, _, _, h => ⟨h.1, fun i hi => wpOp_mono (fun a' w' h' => wpAny_of_J f _ a' w' h'.2) (h.2 i hi)⟩

theorem wpAnyJ_first {i : Nat} {oi : Oper} {v : Value} (hi : ops[i]? = some oi) (hwm : Region.waitsFor md ops m i = true) (hsel : ∀ (j : Nat) (o : Oper) cs b, ops[j]? = some o → o.op ≠ .select cs b)
    (hQ : ∀ c a w, Q (.panic c) (a.put oi.dst v) w → Q (.panic c) a w) :
    ∀ (fuel : Nat) (listed : Array Bool) (a : Act) (w : World),
      (∀ j oj, ops[j]? = some oj → j ≠ i → listed.getD j true = false → (∀ e ∈ oj.after, Region.binds md e = true → e.on ≠ i) → oi.apart ops oj = true) →
      i ∈ Region.ready md ops listed → YieldsIf P ops S oi v a → S w →
      wpAnyJ P md ops Q S m fuel (listed.setIfInBounds i true) (a.put oi.dst v) w → wpAnyJ P md ops Q S m (fuel + 1) listed a w := by
  intro fuel
  induction fuel with
  | zero =>
    intro listed a w _ hr hy hS H
    refine ⟨fun h => (by rw [h] at hr; cases hr), fun j hj => ?_⟩
    by_cases hji : j = i
    · subst hji; exact hy.wpOp hi hS ⟨fun _ => hS, H⟩
    · have := ready_mono hj hji
      rw [H.1] at this
      cases this
  | succ fuel ih =>
    intro listed a w hfree hr hy hS H
    refine ⟨fun h => (by rw [h] at hr; cases hr), fun j hj => ?_⟩
    by_cases hji : j = i
    · subst hji; exact hy.wpOp hi hS ⟨fun _ => hS, H⟩
    · have h1 := H.2 j (ready_mono hj hji)
      obtain ⟨hjun, oj, hoj, hall⟩ := mem_ready.1 hj
      have hnot : ∀ e ∈ oj.after, Region.binds md e = true → e.on ≠ i := fun e he hb heq => by
        have h1 := hall e he hb
        have h0 := (mem_ready.1 hr).1
        rw [heq] at h1
        rcases Nat.lt_or_ge i listed.size with h' | h'
        · simp [h'] at h0 h1; rw [h0] at h1; cases h1
        · simp [Array.getElem?_eq_none h'] at h1
      have h2 := wpOp_putIf (S := S) hoj (hfree j oj hoj hji hjun hnot) (fun cs b => hsel i oi cs b hi) (fun cs b => hsel j oj cs b hoj) hQ hy h1
      have hfree' : ∀ k ok, ops[k]? = some ok → k ≠ i → (listed.setIfInBounds j true).getD k true = false →
          (∀ e ∈ ok.after, Region.binds md e = true → e.on ≠ i) → oi.apart ops ok = true := fun k ok hk hki hun hno => by
        refine hfree k ok hk hki ?_ hno
        by_cases hjk : j = k
        · subst hjk; exact hjun
        · rw [getD_set_ne true hjk] at hun; exact hun
      have hri : i ∈ Region.ready md ops (listed.setIfInBounds j true) := ready_mono hr (Ne.symm hji)
      refine wpOp_mono (fun a' w' h3 => ?_) h2
      obtain ⟨hy3, hS3, hW3⟩ := h3
      have hjm : j ≠ m := fun e => by
        obtain ⟨om, hom, e2, he2, hb2, hon2⟩ := Region.waitsFor_spec hwm
        rw [← e, hoj] at hom
        injection hom with hom
        subst hom
        exact hnot e2 he2 hb2 hon2
      refine ⟨hS3, ih (listed.setIfInBounds j true) a' w' hfree' hri hy3 (hS3 hjm) ?_⟩
      rw [Array.setIfInBounds_comm _ _ hji]
      exact hW3

/-- take number i first -/
theorem wpAnyJ_take {i : Nat} {oi : Oper} {v : Value} {fuel : Nat} {listed : Array Bool} {a : Act} {w : World} (hi : ops[i]? = some oi) (hwm : Region.waitsFor md ops m i = true)
    (hs : Region.noSelect ops = true) (hf : Region.free md ops listed i = true) (hr : (Region.ready md ops listed).contains i = true)
    (hQ : ∀ c a w, Q (.panic c) (a.put oi.dst v) w → Q (.panic c) a w) (hy : YieldsIf P ops S oi v a) (hS : S w)
    (h : wpAnyJ P md ops Q S m fuel (listed.setIfInBounds i true) (a.put oi.dst v) w) : wpAnyJ P md ops Q S m (fuel + 1) listed a w :=
  wpAnyJ_first hi hwm (Region.noSelect_spec hs) hQ fuel listed a w (Region.free_spec hi hf) (by simpa using hr) hy hS h
/-- number i alone may come up -/
theorem wpAnyJ_one {i : Nat} {oi : Oper} {fuel : Nat} {listed : Array Bool} {a : Act} {w : World} (hi : ops[i]? = some oi) (hr : Region.ready md ops listed = [i])
    (h : ∀ K : Act → World → Prop, (∀ a' w', S w' → wpAnyJ P md ops Q S m fuel (listed.setIfInBounds i true) a' w' → K a' w') → if Region.wanted oi (yielded ops a.tmps) = true then Oper.wp P oi a w K Q else K (a.put oi.dst undef) w) : wpAnyJ P md ops Q S m (fuel + 1) listed a w := by
  refine ⟨fun h0 => (by rw [hr] at h0; cases h0), fun j hj => ?_⟩
  rw [hr, List.mem_singleton] at hj
  subst hj
  exact wpOp_step hi (fun K hK => h K fun a' w' hx hk => hK a' w' ⟨fun _ => hx, hk⟩)
/-- the last one -/
theorem wpAnyJ_last {oi : Oper} {fuel : Nat} {listed : Array Bool} {a : Act} {w : World} (hi : ops[m]? = some oi) (hr : Region.ready md ops listed = [m]) (hr2 : Region.ready md ops (listed.setIfInBounds m true) = [])
    (h : ∀ K : Act → World → Prop, (∀ a' w', Q .normal a' w' → K a' w') → if Region.wanted oi (yielded ops a.tmps) = true then Oper.wp P oi a w K Q else K (a.put oi.dst undef) w) : wpAnyJ P md ops Q S m (fuel + 1) listed a w := by
  refine ⟨fun h0 => (by rw [hr] at h0; cases h0), fun j hj => ?_⟩
  rw [hr, List.mem_singleton] at hj
  subst hj
  refine wpOp_step hi (fun K hK => h K fun a' w' hq => hK a' w' ⟨fun h9 => absurd rfl h9, ?_⟩)
  cases fuel with
  | zero => exact ⟨hr2, hq⟩
  | succ f => exact ⟨fun _ => hq, by rw [hr2]; simp⟩
theorem wp_region_J (m : Nat) (S : World → Prop) {id : Nat} {a : Act} {w : World} (hm : P.follows .mixedOrders = true)
    (h : wpAnyJ P .any ops Q S m ops.size (Array.replicate ops.size false) a w.drew) : (Code.region id ops true).wp P Q a w :=
  wp_region_any hm (wpAny_of_J _ _ _ _ h)
end
end Go.Proofs.Ytmembjjgkideeaa

namespace Go.Proofs.Ytmembjjgkideeaa
open Go.RowKit

theorem laidOut : laidOutB Try.prog = true := by kernel_rfl
theorem own : ownKnob Try.prog.godebug = none := by kernel_rfl

theorem rInt : Reads Try.prog 3 intR := reads_int Try.underlying3 (by kernel_rfl)
theorem rBool : Reads Try.prog 4 boolR := reads_bool Try.underlying4 (by kernel_rfl)
theorem rStr : Reads Try.prog 9 strR := reads_string Try.underlying9 (by kernel_rfl)
theorem rInts : Reads Try.prog 29 (slR intR) := reads_slice Try.underlying29 (by kernel_rfl) (by decide) rInt
theorem rIntss : Reads Try.prog 49 (slR (slR intR)) := reads_slice Try.underlying49 (by kernel_rfl) (by decide) rInts

structure Verdict where
  a : Int
  b : Int
  same : Bool
  time : Int
def Verdict.cells (v : Verdict) : List Value := [.int .i64 v.a, .int .i64 v.b, .bool v.same, .int .i64 v.time]
def Verdict.val (v : Verdict) : Value := .agg #[.int .i64 v.a, .int .i64 v.b, .bool v.same, .int .i64 v.time]
def Verdict.ok (v : Verdict) : Prop := I64 v.a ∧ I64 v.b ∧ I64 v.time
def verdictR : Rep Verdict := ⟨4, fun _ cs v => cs = v.cells ∧ v.ok, fun h => by rw [h.1]; rfl, fun _ h => h⟩
theorem list4 {cs : List Value} (h : cs.length = 4) {a b c d : Value} (ha : (cs.drop 0).take 1 = [a]) (hb : (cs.drop 1).take 1 = [b]) (hc : (cs.drop 2).take 1 = [c]) (hd : (cs.drop 3).take 1 = [d]) : cs = [a, b, c, d] := by
  match cs, h with
  | [x, y, z, u], _ => simp_all
theorem reads_verdict {t : TypeId} {f0 f1 f2 f3 : Field} (ht : Try.prog.underlying t = some (.struct #[f0, f1, f2, f3])) (hc : Try.prog.cellsOf t = 4)
    (h0 : f0.type = 3 ∧ f0.offset = 0) (h1 : f1.type = 3 ∧ f1.offset = 1) (h2 : f2.type = 4 ∧ f2.offset = 2) (h3 : f3.type = 3 ∧ f3.offset = 3) : Reads Try.prog t verdictR := by
  refine ⟨hc, fun h => ?_⟩
  obtain ⟨a, e0, w0⟩ := Reads.field ht h 0 f0 rfl (h0.1 ▸ rInt)
  obtain ⟨b, e1, w1⟩ := Reads.field ht h 1 f1 rfl (h1.1 ▸ rInt)
  obtain ⟨s, e2⟩ := Reads.field ht h 2 f2 rfl (h2.1 ▸ rBool)
  obtain ⟨tm, e3, w3⟩ := Reads.field ht h 3 f3 rfl (h3.1 ▸ rInt)
  rw [h0.2] at e0; rw [h1.2] at e1; rw [h2.2] at e2; rw [h3.2] at e3
  exact ⟨⟨a, b, s, tm⟩, list4 ((struct_len ht h).trans hc) e0 e1 e2 e3, w0, w1, w3⟩
theorem rLawVerdict : Reads Try.prog 59 verdictR := reads_verdict Try.underlying59 (by kernel_rfl) ⟨rfl, rfl⟩ ⟨rfl, rfl⟩ ⟨rfl, rfl⟩ ⟨rfl, rfl⟩
theorem rLawVerdicts : Reads Try.prog 36 (slR verdictR) := reads_slice Try.underlying36 (by kernel_rfl) (by decide) rLawVerdict
end Go.Proofs.Ytmembjjgkideeaa

namespace Go.Proofs.Ytmembjjgkideeaa
open Go.RowKit

theorem take_split {α : Type} {l c0 c c1 : List α} {off n : Nat} (h : (l.drop off).take n = c0 ++ (c ++ c1)) (hn : off + n ≤ l.length) :
    l = l.take off ++ (c0 ++ (c ++ c1)) ++ l.drop (off + n) ∧ c0.length + c.length + c1.length = n := by
  have h2 : l = l.take off ++ ((l.drop off).take n ++ (l.drop off).drop n) := by rw [List.take_append_drop, List.take_append_drop]
  have h3 := congrArg List.length h
  simp only [List.length_take, List.length_drop, List.length_append] at h3
  refine ⟨?_, by omega⟩
  rw [h, List.drop_drop] at h2
  rw [List.append_assoc]
  exact h2
theorem set_split {α : Type} {l a c0 c c1 d : List α} (h : l = a ++ (c0 ++ (c ++ c1)) ++ d) (j : Nat) (hj : j < c.length) (u : α) :
    l.set (a.length + c0.length + j) u = a ++ (c0 ++ (c.set j u ++ c1)) ++ d := by
  subst h
  rw [List.append_assoc, List.set_append_right _ _ (by omega)]
  rw [show a.length + c0.length + j - a.length = c0.length + j by omega]
  rw [List.append_assoc, List.set_append_right _ _ (by omega), show c0.length + j - c0.length = j by omega]
  rw [List.append_assoc, List.set_append_left _ _ (by omega)]
  simp

section
variable {α : Type} {R : RepO α} {w w2 : World} {cs : List Value} {xs : List α} {F G : List Nat}
theorem OwnCells.join {c0 c c1 : List Value} {i : Nat} {x : α} (hi : i < xs.length) {F0 F1 F2 : List Nat} (h0 : OwnCells R w c0 (xs.take i) F0) (h1 : R.own w c x F1) (h2 : OwnCells R w c1 (xs.drop (i + 1)) F2) :
    OwnCells R w (c0 ++ (c ++ c1)) (xs.set i x) (F0 ++ (F1 ++ F2)) := by
  have e : xs.set i x = xs.take i ++ ([x] ++ xs.drop (i + 1)) := by
    apply List.ext_getElem?
    intro j
    rw [List.getElem?_set]
    by_cases h : i = j
    · subst h
      simp [hi, List.getElem?_append_right, Nat.min_eq_left (Nat.le_of_lt hi)]
    · rw [if_neg h]
      by_cases h2 : j < i
      · rw [List.getElem?_append_left (by simp; omega)]
        simp [List.getElem?_take, h2]
      · rw [List.getElem?_append_right (by simp; omega), List.getElem?_append_right (by simp; omega)]
        simp only [List.length_take, List.length_singleton, List.getElem?_drop]
        congr 1
        omega
  rw [e]
  exact h0.append ((OwnCells.one h1).append h2)
end

section
variable {α : Type} {R : RepO α} {w : World} {v : Value} {xs : List α} {F : List Nat}
/-- element i: where it lies; what it owns; what stands behind a change inside it, and behind a store of one of its cells -/
theorem OwnSl.elem (h : OwnSl R w v xs F) (hN : F.Nodup) {i : Nat} (hi : i < xs.length) : ∃ g off cap c F1, v = .slice (some ⟨g, off, none⟩) xs.length cap ∧ g ∈ F ∧ (∀ b ∈ F1, b ∈ F) ∧ g ∉ F1 ∧ F1.Nodup ∧
    R.own w c xs[i] F1 ∧ c.length = R.n ∧ (∀ j, j < R.n → w.cell? ⟨g, off + i * R.n + j, none⟩ = c[j]?) ∧ (∀ o, w.frozen? ⟨g, o, none⟩ = false) ∧
    (∀ w2 x', (∀ b ∈ F, b ∉ F1 → w2.heap[b]? = w.heap[b]?) → R.own w2 c x' F1 → OwnSl R w2 v (xs.set i x') F) ∧
    (∀ j u x', j < R.n → R.own (w.setCell ⟨g, off + i * R.n + j, none⟩ u) (c.set j u) x' F1 → OwnSl R (w.setCell ⟨g, off + i * R.n + j, none⟩ u) v (xs.set i x') F) := by
  rcases h with ⟨rfl, _⟩ | ⟨g, off, cap, cur, e, F2, rfl, hm, hg, rfl, hs, hc⟩
  · simp at hi
  · obtain ⟨c0, c, c1, G0, G1, G2, e0, rfl, l0, l1, k0, k1, k2⟩ := hc.split i hi
    have hd := List.nodup_cons.1 hN
    have hgm : ∀ b, b ∈ G0 ++ (G1 ++ G2) → b ≠ g := fun b hb e => hd.1 (e ▸ hb)
    have hn2 := List.nodup_append.1 hd.2
    have hn3 := List.nodup_append.1 hn2.2.1
    have hlt : i * R.n + R.n ≤ xs.length * R.n := by rw [← Nat.succ_mul]; exact Nat.mul_le_mul_right _ hi
    have hs' : off + xs.length * R.n ≤ cur.toList.length := by simpa using hs
    obtain ⟨hcur, hlen⟩ := take_split e0 hs'
    have hoff : (cur.toList.take off).length = off := by rw [List.length_take]; omega
    refine ⟨g, off, cap, c, G1, rfl, List.mem_cons_self .., fun b hb => List.mem_cons_of_mem _ (List.mem_append_right _ (List.mem_append_left _ hb)), fun hb => hgm g (List.mem_append_right _ (List.mem_append_left _ hb)) rfl, hn3.1, k1, l1,
      fun j hj => ?_, fun o => frozen_of_row w g o cur e hg, fun w2 x' hk ho => ?_, fun j u x' hj ho => ?_⟩
    · rw [cell_of_row w g _ cur e (0, 0) hg, ← Array.getElem?_toList, hcur, List.append_assoc, List.getElem?_append_right (by omega), List.append_assoc, List.getElem?_append_right (by omega), List.append_assoc,
        List.getElem?_append_left (by omega)]
      congr 1
      omega
    · refine .inr ⟨g, off, cap, cur, e, G0 ++ (G1 ++ G2), by rw [List.length_set], by rw [List.length_set]; exact hm, ?_, rfl, by rw [List.length_set]; exact hs, ?_⟩
      · exact (hk g (List.mem_cons_self ..) fun hb => hgm g (List.mem_append_right _ (List.mem_append_left _ hb)) rfl).trans hg
      · rw [List.length_set, e0]
        refine OwnCells.join hi (k0.keep fun b hb => ?_) ho (k2.keep fun b hb => ?_)
        · exact hk b (List.mem_cons_of_mem _ (List.mem_append_left _ hb)) fun hb2 => hn2.2.2 b hb b (List.mem_append_left _ hb2) rfl
        · exact hk b (List.mem_cons_of_mem _ (List.mem_append_right _ (List.mem_append_right _ hb))) fun hb2 => hn3.2.2 b hb2 b hb rfl
    · have hset := set_split hcur j (by omega) u
      rw [hoff, l0] at hset
      have hh : (w.setCell ⟨g, off + i * R.n + j, none⟩ u).heap[g]? = some (.cells (cur.toList.set (off + i * R.n + j) u).toArray e (0, 0)) := by
        rw [heap_setCell_same w g _ cur e u hg]
        congr 2
        apply Array.ext'
        simp
      refine .inr ⟨g, off, cap, _, e, G0 ++ (G1 ++ G2), by rw [List.length_set], by rw [List.length_set]; exact hm, hh, rfl, by rw [List.length_set]; simpa using hs, ?_⟩
      have hk : ∀ b, b ≠ g → (w.setCell ⟨g, off + i * R.n + j, none⟩ u).heap[b]? = w.heap[b]? := fun b hb => keep_setCell hb
      have e1 : ((cur.toList.set (off + i * R.n + j) u).toArray.toList.drop off).take ((xs.set i x').length * R.n) = c0 ++ (c.set j u ++ c1) := by
        rw [List.length_set, hset, List.append_assoc, List.drop_append_of_le_length (by omega)]
        rw [List.drop_of_length_le (by omega), List.nil_append]
        rw [List.take_append_of_le_length (by simp; omega), List.take_of_length_le (by simp; omega)]
      rw [e1]
      refine OwnCells.join hi (k0.keep fun b hb => hk b (hgm b (List.mem_append_left _ hb))) ho (k2.keep fun b hb => hk b (hgm b (List.mem_append_right _ (List.mem_append_right _ hb))))
end

/-- a store of an int -/
theorem OwnSl.int_store {w : World} {v : Value} {xs : List Int} {F : List Nat} (h : OwnSl intO w v xs F) (hN : F.Nodup) {i : Nat} (hi : i < xs.length) : ∃ g off cap, v = .slice (some ⟨g, off, none⟩) xs.length cap ∧ g ∈ F ∧
    w.cell? ⟨g, off + i, none⟩ = some (.int .i64 xs[i]) ∧ w.frozen? ⟨g, off + i, none⟩ = false ∧ ∀ x, I64 x → OwnSl intO (w.setCell ⟨g, off + i, none⟩ (.int .i64 x)) v (xs.set i x) F := by
  obtain ⟨g, off, cap, c, F1, rfl, hg, _, _, _, ⟨⟨rfl, _⟩, rfl⟩, _, hc, hf, _, hst⟩ := h.elem hN hi
  have h1 : intO.n = 1 := rfl
  refine ⟨g, off, cap, rfl, hg, ?_, hf _, fun x hx => ?_⟩
  · simpa [h1] using hc 0 (by omega)
  · have := hst 0 (.int .i64 x) x (by omega) ⟨⟨rfl, hx⟩, rfl⟩
    simpa [h1] using this
/-- a table of ints: a store -/
theorem OwnSl.ints_store {w : World} {v : Value} {rows : List (List Int)} {F : List Nat} (h : OwnSl (slO intO) w v rows F) (hN : F.Nodup) {i s : Nat} (hi : i < rows.length) (hs : s < rows[i].length) :
    ∃ g off cap b o2 cap2, v = .slice (some ⟨g, off, none⟩) rows.length cap ∧ w.cell? ⟨g, off + i, none⟩ = some (.slice (some ⟨b, o2, none⟩) rows[i].length cap2) ∧ b ∈ F ∧ g ≠ b ∧
      w.cell? ⟨b, o2 + s, none⟩ = some (.int .i64 rows[i][s]) ∧ w.frozen? ⟨b, o2 + s, none⟩ = false ∧
      ∀ x, I64 x → OwnSl (slO intO) (w.setCell ⟨b, o2 + s, none⟩ (.int .i64 x)) v (rows.set i (rows[i].set s x)) F := by
  obtain ⟨g, off, cap, c, F1, rfl, hg, hsub, hng, hN1, ⟨u, rfl, ho⟩, _, hc, hf, hin, _⟩ := h.elem hN hi
  obtain ⟨b, o2, cap2, rfl, hb, hcell, hfr, hst⟩ := ho.int_store hN1 hs
  have h1 : (slO intO).n = 1 := rfl
  refine ⟨g, off, cap, b, o2, cap2, rfl, ?_, hsub b hb, fun e => hng (e ▸ hb), hcell, hfr, fun x hx => ?_⟩
  · simpa [h1] using hc 0 (by omega)
  · refine hin _ _ (fun k _ hk => keep_setCell fun e => hk (e ▸ hb)) ⟨_, rfl, hst x hx⟩
end Go.Proofs.Ytmembjjgkideeaa

namespace Go.Proofs.Ytmembjjgkideeaa
open Go.RowKit

theorem infoInt : (Try.prog.info? 3).map (fun i => (i.zero, i.size, i.bytes)) = some (some (.int .i64 0), 1, 8) := by kernel_rfl

theorem ints_cells (w : World) (xs : List Int) (h : ∀ x ∈ xs, I64 x) : OwnCells intO w (xs.map (Value.int .i64)) xs [] := by
  induction xs with
  | nil => exact .nil
  | cons x xs ih => exact ⟨[.int .i64 x], xs.map (Value.int .i64), [], [], rfl, rfl, ⟨⟨rfl, h x (List.mem_cons_self ..)⟩, rfl⟩, ih fun y hy => h y (List.mem_cons_of_mem _ hy)⟩
theorem Sl.i64 {w : World} {v : Value} {xs : List Int} (h : Sl intR w v xs) : ∀ x ∈ xs, I64 x := by
  intro x hx
  obtain ⟨A, cap, rfl, _⟩ := h.form
  obtain ⟨i, hi, rfl⟩ := List.getElem_of_mem hx
  obtain ⟨_, _, _, hb, _⟩ := h.int hi
  exact hb
theorem flat_rep (n : Nat) (z : Value) : (List.replicate n [z]).flatten = List.replicate n z := by
  induction n with
  | zero => rfl
  | succ n ih => simp [List.replicate_succ, ih]

end Go.Proofs.Ytmembjjgkideeaa

namespace Go.Proofs.Ytmembjjgkideeaa
open Go.RowKit

def cmpI (a b : Int) : Int := if a < b then -1 else if b < a then 1 else 0
theorem cmpI_64 (a b : Int) : I64 (cmpI a b) := by unfold I64 cmpI; split <;> (try split) <;> omega
theorem cmpI_zero {a b : Int} : cmpI a b = 0 ↔ a = b := by unfold cmpI; split <;> (try split) <;> omega
set_option maxHeartbeats 400000 in
theorem spec_l8Int (a b : Int) (w : World) :
    Calls Try.prog 81 #[.int .i64 a, .int .i64 b] w fun e w2 => e = .returned (.int .i64 (cmpI a b)) ∧ w = w2 := by
  go_enter Try.func81, Try.ntmps81
  go_wp2
  all_goals go_ret
  all_goals refine ⟨?_, rfl⟩
  all_goals (simp_all [cmpI]; try omega)

end Go.Proofs.Ytmembjjgkideeaa

namespace Go.Proofs.Ytmembjjgkideeaa
open Go.RowKit

def inB (x a b : Int) : Bool := decide (a ≤ x ∧ x ≤ b)

set_option maxHeartbeats 400000 in
theorem spec_l1In (x a b : Int) (w : World) :
    Calls Try.prog 80 #[.int .i64 x, .int .i64 a, .int .i64 b] w fun e w2 => e = .returned (.bool (inB x a b)) ∧ w = w2 := by
  go_enter Try.func80, Try.ntmps80
  go_wp2
  all_goals go_ret
  all_goals refine ⟨?_, rfl⟩
  all_goals (simp [inB]; try omega)

set_option maxHeartbeats 400000 in
theorem impl_within (x a b : Int) (w : World) :
    Calls Try.prog 56 #[.int .i64 x, .int .i64 a, .int .i64 b] w fun e w2 => e = .returned (.bool (inB x a b)) ∧ w = w2 := by
  go_enter Try.func56, Try.ntmps56
  go_wp2
  all_goals go_ret
  all_goals refine ⟨?_, rfl⟩
  all_goals (simp [inB]; try omega)

end Go.Proofs.Ytmembjjgkideeaa

namespace Go.Proofs.Ytmembjjgkideeaa
open Go.RowKit

theorem Blk.setAt {w : World} {g : Nat} {e : TypeId} {cs : List Value} (h : Blk w g e cs) (i : Nat) (hi : i < cs.length) (u : Value) : Blk (w.setCell ⟨g, i, none⟩ u) g e (cs.set i u) := by
  have h1 : cs = cs.take i ++ cs[i] :: cs.drop (i + 1) := by rw [← List.drop_eq_getElem_cons hi, List.take_append_drop]
  have h2 : cs.set i u = (cs.take i ++ [u]) ++ cs.drop (i + 1) := by
    rw [List.set_eq_take_append_cons_drop, if_pos hi]; simp
  rw [h2]
  exact Blk.store (done := cs.take i) (z := cs[i]) (by rw [← h1]; exact h) (by simp; omega) u
/-- a struct of four cells, stored cell by cell -/
theorem Blk.store4 {w : World} {g : Nat} {e : TypeId} {a b c d : Value} (h : Blk w g e [a, b, c, d]) (x y z u : Value) :
    (w.cell? ⟨g, 0, none⟩ = some a ∧ w.frozen? ⟨g, 0, none⟩ = false) ∧ ((w.setCell ⟨g, 0, none⟩ x).cell? ⟨g, 1, none⟩ = some b ∧ (w.setCell ⟨g, 0, none⟩ x).frozen? ⟨g, 1, none⟩ = false) ∧
    (((w.setCell ⟨g, 0, none⟩ x).setCell ⟨g, 1, none⟩ y).cell? ⟨g, 2, none⟩ = some c ∧ ((w.setCell ⟨g, 0, none⟩ x).setCell ⟨g, 1, none⟩ y).frozen? ⟨g, 2, none⟩ = false) ∧
    ((((w.setCell ⟨g, 0, none⟩ x).setCell ⟨g, 1, none⟩ y).setCell ⟨g, 2, none⟩ z).cell? ⟨g, 3, none⟩ = some d ∧ (((w.setCell ⟨g, 0, none⟩ x).setCell ⟨g, 1, none⟩ y).setCell ⟨g, 2, none⟩ z).frozen? ⟨g, 3, none⟩ = false) ∧
    Blk ((((w.setCell ⟨g, 0, none⟩ x).setCell ⟨g, 1, none⟩ y).setCell ⟨g, 2, none⟩ z).setCell ⟨g, 3, none⟩ u) g e [x, y, z, u] := by
  have b1 := Blk.store (done := []) h rfl x
  have b2 := Blk.store (done := [x]) b1 rfl y
  have b3 := Blk.store (done := [x, y]) b2 rfl z
  exact ⟨Blk.at_ (done := []) h rfl, Blk.at_ (done := [x]) b1 rfl, Blk.at_ (done := [x, y]) b2 rfl, Blk.at_ (done := [x, y, z]) b3 rfl, Blk.store (done := [x, y, z]) b3 rfl u⟩
section
variable {w : World} {g : Nat} {e : TypeId} {a b c d : Value}
theorem Blk.c4 (h : Blk w g e [a, b, c, d]) : (w.cell? ⟨g, 0, none⟩ = some a ∧ w.cell? ⟨g, 1, none⟩ = some b ∧ w.cell? ⟨g, 2, none⟩ = some c ∧ w.cell? ⟨g, 3, none⟩ = some d) ∧ ∀ i, w.frozen? ⟨g, i, none⟩ = false :=
  ⟨⟨h.cells.1 0, h.cells.1 1, h.cells.1 2, h.cells.1 3⟩, h.cells.2⟩
theorem Blk.set0 (h : Blk w g e [a, b, c, d]) (u : Value) : Blk (w.setCell ⟨g, 0, none⟩ u) g e [u, b, c, d] := Blk.store (done := []) h rfl u
theorem Blk.set1 (h : Blk w g e [a, b, c, d]) (u : Value) : Blk (w.setCell ⟨g, 1, none⟩ u) g e [a, u, c, d] := Blk.store (done := [a]) h rfl u
theorem Blk.set2 (h : Blk w g e [a, b, c, d]) (u : Value) : Blk (w.setCell ⟨g, 2, none⟩ u) g e [a, b, u, d] := Blk.store (done := [a, b]) h rfl u
theorem Blk.set3 (h : Blk w g e [a, b, c, d]) (u : Value) : Blk (w.setCell ⟨g, 3, none⟩ u) g e [a, b, c, u] := Blk.store (done := [a, b, c]) h rfl u
theorem Blk.other {cs : List Value} {g2 i : Nat} {u : Value} (h : Blk w g e cs) (hne : g ≠ g2) : Blk (w.setCell ⟨g2, i, none⟩ u) g e cs := h.keep (keep_setCell hne)
end
end Go.Proofs.Ytmembjjgkideeaa

namespace Go.Proofs.Ytmembjjgkideeaa
open Go.RowKit

/-- the slice v is the list xs, in a row of its own from base on, ready to grow; its elements own the blocks F -/
def Bld {α : Type} (R : RepO α) (w : World) (base : Nat) (e : TypeId) (v : Value) (xs : List α) (F : List Nat) : Prop :=
  ∃ cs, w.ownsRow base e R.n v xs.length cs ∧ OwnCells R w cs xs F ∧ (∀ g, v.ownBlock = some g → g ∉ F) ∧ F.Nodup ∧ ∀ b ∈ F, base ≤ b

section
variable {α : Type} {R : RepO α} {w w2 : World} {base : Nat} {e : TypeId} {v : Value} {xs : List α} {F : List Nat}
theorem Bld.nil (w : World) (base : Nat) (e : TypeId) : Bld R w base e (.slice none 0 0) ([] : List α) [] :=
  ⟨[], World.ownsRow_nil w base e R.n, .nil, fun _ h => (by cases h), List.nodup_nil, fun _ h => by cases h⟩
theorem Bld.lit (w : World) (hb : base ≤ w.heap.size) (e : TypeId) : Bld R (w.alloc (.cells #[] e)) base e (.slice (some ⟨w.heap.size, 0, none⟩) 0 0) ([] : List α) [] :=
  ⟨[], ⟨by simp, .inr ⟨w.heap.size, 0, #[], rfl, hb, heap_alloc_new w _, Nat.le_refl _, Nat.zero_le _, by simp, by simp⟩⟩, .nil, fun _ _ h => (by cases h), List.nodup_nil, fun _ h => by cases h⟩
theorem Bld.lt (h : Bld R w base e v xs F) : (∀ b ∈ F, b < w.heap.size) ∧ ∀ g, v.ownBlock = some g → g < w.heap.size ∧ base ≤ g := by
  obtain ⟨cs, h1, h2, _⟩ := h
  refine ⟨h2.lt, fun g hg => ?_⟩
  rcases h1.2 with ⟨rfl, _⟩ | ⟨g', cap, cur, rfl, hb, hh, _⟩
  · cases hg
  · injection hg with hg
    subst hg
    exact ⟨block_lt hh, hb⟩
theorem Bld.keep (h : Bld R w base e v xs F) (hk : ∀ b, base ≤ b → b < w.heap.size → w2.heap[b]? = w.heap[b]?) : Bld R w2 base e v xs F := by
  have hl := h.lt
  obtain ⟨cs, h1, h2, h3, h4, h5⟩ := h
  refine ⟨cs, ⟨h1.1, ?_⟩, h2.keep fun b hb => hk b (h5 b hb) (hl.1 b hb), h3, h4, h5⟩
  rcases h1.2 with h | ⟨g', cap, cur, rfl, hb, hh, hr⟩
  · exact .inl h
  · exact .inr ⟨g', cap, cur, rfl, hb, (hk g' hb (block_lt hh)).trans hh, hr⟩
theorem Bld.ext (h : Bld R w base e v xs F) (x : Ext w w2) : Bld R w2 base e v xs F := h.keep fun _ _ hb => x.block hb
theorem Bld.done (h : Bld R w base e v xs F) : ∃ F', OwnSl R w v xs F' ∧ F'.Nodup ∧ ∀ b ∈ F', base ≤ b := by
  obtain ⟨cs, h1, h2, h3, h4, h5⟩ := h
  rcases h1.2 with ⟨rfl, hn⟩ | ⟨g, cap, cur, rfl, hb, hh, hnc, hcm, hcs, htake⟩
  · have : xs = [] := List.eq_nil_of_length_eq_zero hn
    exact ⟨[], .inl ⟨this, rfl, none, 0, rfl, Nat.zero_le _⟩, List.nodup_nil, fun _ h => by cases h⟩
  · refine ⟨g :: F, .inr ⟨g, 0, cap, cur, e, F, rfl, ⟨hnc, hcm⟩, hh, rfl, ?_, by rw [List.drop_zero, htake]; exact h2⟩, List.nodup_cons.2 ⟨h3 g rfl, h4⟩, fun b hb2 => ?_⟩
    · rw [hcs, Nat.zero_add]; exact Nat.mul_le_mul_right _ hnc
    · rcases List.mem_cons.1 hb2 with rfl | hb2
      · exact hb
      · exact h5 b hb2
theorem Bld.sl (h : Bld R w base e v xs F) : Sl R.toRep w v xs := by
  obtain ⟨F', h, _⟩ := h.done
  exact h.sl
/-- the blocks of data made since -/
theorem Bld.fresh (h : Bld R w base e v xs F) {G : List Nat} (hG : NewF w G) (hb : base ≤ w.heap.size) : (∀ b ∈ G, b ∉ F ∧ v.ownBlock ≠ some b) ∧ G.Nodup ∧ ∀ b ∈ G, base ≤ b := by
  refine ⟨fun b hb2 => ⟨fun hb3 => ?_, fun hb3 => ?_⟩, hG.1, fun b hb2 => Nat.le_trans hb (hG.2 b hb2)⟩
  · have := h.lt.1 b hb3
    have := hG.2 b hb2
    omega
  · have := (h.lt.2 b hb3).1
    have := hG.2 b hb2
    omega
theorem fresh_nil : (∀ b ∈ ([] : List Nat), b ∉ F ∧ v.ownBlock ≠ some b) ∧ ([] : List Nat).Nodup ∧ ∀ b ∈ ([] : List Nat), base ≤ b := ⟨fun _ h => (by cases h), List.nodup_nil, fun _ h => by cases h⟩
end

/-- what stands behind an append -/
theorem bld_grown {α : Type} {R : RepO α} {w w' : World} {base : Nat} {e : TypeId} {v v' : Value} {xs : List α} {F G : List Nat} {cs c : List Value} {y : α} (hl : (∀ b ∈ F, b < w.heap.size) ∧ ∀ g, v.ownBlock = some g → g < w.heap.size ∧ base ≤ g)
    (b2 : OwnCells R w cs xs F) (b3 : ∀ g, v.ownBlock = some g → g ∉ F) (b4 : F.Nodup) (b5 : ∀ b ∈ F, base ≤ b) (hy : R.own w c y G) (hG : (∀ b ∈ G, b ∉ F ∧ v.ownBlock ≠ some b) ∧ G.Nodup ∧ ∀ b ∈ G, base ≤ b)
    (hown : w'.ownsRow base e R.n v' (xs.length + 1) (cs ++ c)) (hgr : w.grownBy w' v.ownBlock) (hat : v'.ownBlock = v.ownBlock ∨ v'.ownBlock = some w.heap.size) :
    Bld R w' base e v' (xs ++ [y]) (F ++ G) ∧ ∀ w0 : World, w0.heap.size ≤ base → Ext w0 w → Ext w0 w' := by
  have hk : ∀ b, b < w.heap.size → v.ownBlock ≠ some b → w'.heap[b]? = w.heap[b]? := fun b hb hne => hgr.block b hb (fun e => hne e.symm)
  refine ⟨⟨cs ++ c, by simpa using hown, OwnCells.snoc (b2.keep fun b hb => hk b (hl.1 b hb) fun e => b3 b e hb) (R.own_keep (fun b hb => hk b (R.own_lt hy b hb) (hG.1 b hb).2) hy), fun g hg hm => ?_, ?_, fun b hb => ?_⟩, ?_⟩
  · rcases hat with hat | hat
    · rw [hat] at hg
      rcases List.mem_append.1 hm with hm | hm
      · exact b3 g hg hm
      · exact (hG.1 g hm).2 hg
    · rw [hat] at hg
      injection hg with hg
      subst hg
      rcases List.mem_append.1 hm with hm | hm
      · exact Nat.lt_irrefl _ (hl.1 _ hm)
      · exact Nat.lt_irrefl _ (R.own_lt hy _ hm)
  · exact List.nodup_append.2 ⟨b4, hG.2.1, fun x hx y hy e => (hG.1 y hy).1 (e ▸ hx)⟩
  · rcases List.mem_append.1 hb with hb | hb
    · exact b5 b hb
    · exact hG.2.2 b hb
  · intro w0 h0 hx0
    exact hx0.grown hgr fun g hg => Nat.le_trans h0 (hl.2 g hg).2
/-- 'append(s, x)': one element more -/
theorem wpList_app {P : Program} {α : Type} {R : RepO α} {ops : Array Oper} {rest : List Oper} {o : Oper} {a : Act} {w : World} {Q : Exit → Act → World → Prop} (hgd : o.guard = none) (s x : Operand) (t : TypeId)
    (ho : o.op = .call { callee := .builtin .append, args := #[s, x], argTypes := #[t, t] })
    (base : Nat) (e : TypeId) (i : TypeInfo) (z : Value) (bytes : Nat) (ht : P.underlying t = some (.slice e)) (hi : P.info? e = some i) (hz : i.zero = some z)
    (hsize : i.size = R.n) (hby : i.bytes = bytes) (hzs : z.cells.size = R.n) (hsz : 0 < R.n)
    {v : Value} {xs : List α} {F : List Nat} (hb : Bld R w base e v xs F) (hs : a.eval s = v)
    (ad : Addr) (k : Nat) (hx : a.eval x = .slice (some ad) 1 k) {c : List Value} (hc : ∀ j u, c[j]? = some u → w.cell? (ad.add j) = some u) (h1 : ∀ u ∈ c, u.oneCell' = true) {y : α} {G : List Nat} (hy : R.own w c y G)
    (hG : (∀ b ∈ G, b ∉ F ∧ v.ownBlock ≠ some b) ∧ G.Nodup ∧ ∀ b ∈ G, base ≤ b)
    (h63 : xs.length + 1 ≤ maxLen) (hbytes : (xs.length + 1) * bytes ≤ 140737488355328) (hbase : base ≤ w.heap.size)
    (h : ∀ v' w', Bld R w' base e v' (xs ++ [y]) (F ++ G) → (∀ w0 : World, w0.heap.size ≤ base → Ext w0 w → Ext w0 w') → wpList P ops Q rest (a.put o.dst v') w') :
    wpList P ops Q (o :: rest) a w := by
  have hl := hb.lt
  obtain ⟨cs, b1, b2, b3, b4, b5⟩ := hb
  refine wpList_append_own_at w hgd s x t ho base e i z R.n bytes ht hi hz hsize hby hzs hsz v xs.length cs hs b1 ad 1 k c hx (by rw [R.len (R.own_rd hy), Nat.one_mul]) hc h1 h63 hbytes hbase ?_
  intro v' w' hown hgr _ hat
  obtain ⟨h5, h6⟩ := bld_grown hl b2 b3 b4 b5 hy hG hown hgr hat
  exact h _ _ h5 h6
/-- what is known of an element type -/
structure ElemT (P : Program) (t e : TypeId) (n bytes : Nat) : Prop where
  ht : P.underlying t = some (.slice e)
  info : ∃ i z, P.info? e = some i ∧ i.zero = some z ∧ i.size = n ∧ i.bytes = bytes ∧ z.cells.size = n
/-- 'append(s, x)' as the walk meets it: the element has just been laid in a new block -/
theorem wpList_app1 {P : Program} {α : Type} {R : RepO α} {ops : Array Oper} {rest : List Oper} {o : Oper} {a : Act} {W : World} {Q : Exit → Act → World → Prop} {t e : TypeId} {bytes : Nat} (E : ElemT P t e R.n bytes) (hsz : 0 < R.n)
    (hgd : o.guard = none) (s x : Operand) (ho : o.op = .call { callee := .builtin .append, args := #[s, x], argTypes := #[t, t] })
    {base : Nat} {v : Value} {xs : List α} {F : List Nat} (hb : Bld R W base e v xs F) (hs : a.eval s = v) {c : Array Value} {T : TypeId} (g k : Nat) (hx : a.eval x = .slice (some ⟨g, 0, none⟩) 1 k) (hg : g = W.heap.size)
    (h1 : ∀ u ∈ c.toList, u.oneCell' = true) {y : α} {G : List Nat} (hy : R.own W c.toList y G) (hG : (∀ b ∈ G, b ∉ F ∧ v.ownBlock ≠ some b) ∧ G.Nodup ∧ ∀ b ∈ G, base ≤ b)
    (hbytes : xs.length + 1 ≤ 1099511627776) (hby : bytes ≤ 128) (hbase : base ≤ W.heap.size)
    (h : ∀ v' w', Bld R w' base e v' (xs ++ [y]) (F ++ G) → (∀ w0 : World, w0.heap.size ≤ base → Ext w0 W → Ext w0 w') → wpList P ops Q rest (a.put o.dst v') w') :
    wpList P ops Q (o :: rest) a (W.alloc (.cells c T)) := by
  obtain ⟨ht, i, z, hi, hz, hsize, hby2, hzs⟩ := E
  have x1 : Ext W (W.alloc (.cells c T)) := (Ext.refl W).alloc _
  refine wpList_app hgd s x t ho base e i z bytes ht hi hz hsize hby2 hzs hsz (hb.ext x1) hs ⟨g, 0, none⟩ k hx (fun j u hj => ?_) h1 (R.own_keep (fun b hb => x1.block (R.own_lt hy b hb)) hy) hG
    (by unfold maxLen; omega) (Nat.le_trans (Nat.mul_le_mul hbytes hby) (by decide)) (Nat.le_trans hbase x1.size) fun v' w' h2 h3 => h v' w' h2 fun w0 h4 h5 => h3 w0 h4 (h5.trans x1)
  subst hg
  have : (W.alloc (.cells c T)).cell? ⟨W.heap.size, j, none⟩ = c[j]? := ((Ext.refl (W.alloc (.cells c T))).box).1 j
  rw [add_eq, Nat.zero_add, this]
  simpa using hj
/-- the same; other blocks of the run's own stand -/
theorem wpList_app1k {P : Program} {α : Type} {R : RepO α} {ops : Array Oper} {rest : List Oper} {o : Oper} {a : Act} {W : World} {Q : Exit → Act → World → Prop} {t e : TypeId} {bytes : Nat} (E : ElemT P t e R.n bytes) (hsz : 0 < R.n)
    (hgd : o.guard = none) (s x : Operand) (ho : o.op = .call { callee := .builtin .append, args := #[s, x], argTypes := #[t, t] })
    {base : Nat} {v : Value} {xs : List α} {F : List Nat} (hb : Bld R W base e v xs F) (hs : a.eval s = v) {c : Array Value} {T : TypeId} (g k : Nat) (hx : a.eval x = .slice (some ⟨g, 0, none⟩) 1 k) (hg : g = W.heap.size)
    (h1 : ∀ u ∈ c.toList, u.oneCell' = true) {y : α} {G : List Nat} (hy : R.own W c.toList y G) (hG : (∀ b ∈ G, b ∉ F ∧ v.ownBlock ≠ some b) ∧ G.Nodup ∧ ∀ b ∈ G, base ≤ b)
    (hbytes : xs.length + 1 ≤ 1099511627776) (hby : bytes ≤ 128) (hbase : base ≤ W.heap.size)
    (h : ∀ v' w', Bld R w' base e v' (xs ++ [y]) (F ++ G) → (∀ w0 : World, w0.heap.size ≤ base → Ext w0 W → Ext w0 w') →
      (∀ F' : List Nat, (∀ b ∈ F', b < W.heap.size) → (∀ b ∈ F', v.ownBlock ≠ some b) → (∀ b ∈ F', w'.heap[b]? = W.heap[b]?) ∧ ∀ b ∈ F', v'.ownBlock ≠ some b) → wpList P ops Q rest (a.put o.dst v') w') :
    wpList P ops Q (o :: rest) a (W.alloc (.cells c T)) := by
  obtain ⟨ht, i, z, hi, hz, hsize, hby2, hzs⟩ := E
  have x1 : Ext W (W.alloc (.cells c T)) := (Ext.refl W).alloc _
  have hb1 := hb.ext x1
  have hl := hb1.lt
  obtain ⟨cs, b1, b2, b3, b4, b5⟩ := hb1
  have hy1 : R.own (W.alloc (.cells c T)) c.toList y G := R.own_keep (fun b hb => x1.block (R.own_lt hy b hb)) hy
  refine wpList_append_own_at (W.alloc (.cells c T)) hgd s x t ho base e i z R.n bytes ht hi hz hsize hby2 hzs hsz v xs.length cs hs b1 ⟨g, 0, none⟩ 1 k c.toList hx (by rw [R.len (R.own_rd hy), Nat.one_mul]) (fun j u hj => ?_) h1
    (by unfold maxLen; omega) (Nat.le_trans (Nat.mul_le_mul hbytes hby) (by decide)) (Nat.le_trans hbase x1.size) ?_
  · subst hg
    have : (W.alloc (.cells c T)).cell? ⟨W.heap.size, j, none⟩ = c[j]? := ((Ext.refl (W.alloc (.cells c T))).box).1 j
    rw [add_eq, Nat.zero_add, this]
    simpa using hj
  · intro v' w' hown hgr _ hat
    obtain ⟨h5, h6⟩ := bld_grown hl b2 b3 b4 b5 hy1 hG hown hgr hat
    refine h _ _ h5 (fun w0 h7 h8 => h6 w0 h7 (h8.trans x1)) fun F' hF hv => ⟨fun b hb => ?_, fun b hb e => ?_⟩
    · rw [hgr.block b (Nat.lt_of_lt_of_le (hF b hb) x1.size) (fun e => hv b hb e.symm), x1.block (hF b hb)]
    · rcases hat with hat | hat
      · exact hv b hb (hat ▸ e)
      · rw [hat] at e
        injection e with e
        have := hF b hb
        have := x1.size
        omega
/-- at a step of a region that draws its order -/
theorem step_app1 {P : Program} {α : Type} {R : RepO α} {ops : Array Oper} {o : Oper} {a : Act} {w : World} {K : Act → World → Prop} {Q : Exit → Act → World → Prop} {Z : Prop} {t e : TypeId} {bytes : Nat} (E : ElemT P t e R.n bytes) (hsz : 0 < R.n)
    (hgd : o.guard = none) (s x : Operand) (ho : o.op = .call { callee := .builtin .append, args := #[s, x], argTypes := #[t, t] })
    {base : Nat} {v : Value} {xs : List α} {F : List Nat} (hb : Bld R w base e v xs F) (hs : a.eval s = v) {c : Array Value} {T : TypeId} {fr : Nat × Nat} (g k : Nat) (hx : a.eval x = .slice (some ⟨g, 0, none⟩) 1 k) (hg : w.heap[g]? = some (.cells c T fr))
    (h1 : ∀ u ∈ c.toList, u.oneCell' = true) {y : α} {G : List Nat} (hy : R.own w c.toList y G) (hG : (∀ b ∈ G, b ∉ F ∧ v.ownBlock ≠ some b) ∧ G.Nodup ∧ ∀ b ∈ G, base ≤ b)
    (hbytes : xs.length + 1 ≤ 1099511627776) (hby : bytes ≤ 128) (hbase : base ≤ w.heap.size) {w0 : World} (h0 : w0.heap.size ≤ base) (hx0 : Ext w0 w)
    (h : ∀ v' w', Bld R w' base e v' (xs ++ [y]) (F ++ G) → Ext w0 w' → K (a.put o.dst v') w') :
    if Region.wanted o (yielded ops a.tmps) = true then Oper.wp P o a w K Q else Z := by
  have hw : Region.wanted o (yielded ops a.tmps) = true := by simp [Region.wanted, hgd]
  rw [if_pos hw]
  obtain ⟨ht, i, z, hi, hz, hsize, hby2, hzs⟩ := E
  have hl := hb.lt
  obtain ⟨cs, b1, b2, b3, b4, b5⟩ := hb
  refine wp_append_lies w s x t ho base e i z R.n bytes ht hi hz hsize hby2 hzs hsz v xs.length cs hs b1 ⟨g, 0, none⟩ 1 k c.toList hx (by rw [R.len (R.own_rd hy), Nat.one_mul]) (World.news_of_block hg) h1 (by decide)
    (by unfold maxLen; omega) (Nat.le_trans (Nat.mul_le_mul hbytes hby) (by decide)) hbase w.heap.size rfl ?_
  intro g' cap w' hown hgr hat _
  have hat2 : (Value.slice (some ⟨g', 0, none⟩) (xs.length + 1) cap).ownBlock = v.ownBlock ∨ (Value.slice (some ⟨g', 0, none⟩) (xs.length + 1) cap).ownBlock = some w.heap.size := by
    rcases hat with hat | hat
    · exact .inl hat.symm
    · exact .inr (by rw [hat]; rfl)
  obtain ⟨h5, h6⟩ := bld_grown hl b2 b3 b4 b5 hy hG hown hgr hat2
  exact h _ _ h5 (h6 w0 h0 hx0)
/-- the same; other blocks stand -/
theorem step_app1k {P : Program} {α : Type} {R : RepO α} {ops : Array Oper} {o : Oper} {a : Act} {w : World} {K : Act → World → Prop} {Q : Exit → Act → World → Prop} {Z : Prop} {t e : TypeId} {bytes : Nat} (E : ElemT P t e R.n bytes) (hsz : 0 < R.n)
    (hgd : o.guard = none) (s x : Operand) (ho : o.op = .call { callee := .builtin .append, args := #[s, x], argTypes := #[t, t] })
    {base : Nat} {v : Value} {xs : List α} {F : List Nat} (hb : Bld R w base e v xs F) (hs : a.eval s = v) {c : Array Value} {T : TypeId} {fr : Nat × Nat} (g k : Nat) (hx : a.eval x = .slice (some ⟨g, 0, none⟩) 1 k) (hg : w.heap[g]? = some (.cells c T fr))
    (h1 : ∀ u ∈ c.toList, u.oneCell' = true) {y : α} {G : List Nat} (hy : R.own w c.toList y G) (hG : (∀ b ∈ G, b ∉ F ∧ v.ownBlock ≠ some b) ∧ G.Nodup ∧ ∀ b ∈ G, base ≤ b)
    (hbytes : xs.length + 1 ≤ 1099511627776) (hby : bytes ≤ 128) (hbase : base ≤ w.heap.size) {w0 : World} (h0 : w0.heap.size ≤ base) (hx0 : Ext w0 w)
    (h : ∀ v' w', Bld R w' base e v' (xs ++ [y]) (F ++ G) → Ext w0 w' → (∀ b, b < w.heap.size → v.ownBlock ≠ some b → w'.heap[b]? = w.heap[b]?) → K (a.put o.dst v') w') :
    if Region.wanted o (yielded ops a.tmps) = true then Oper.wp P o a w K Q else Z := by
  have hw : Region.wanted o (yielded ops a.tmps) = true := by simp [Region.wanted, hgd]
  rw [if_pos hw]
  obtain ⟨ht, i, z, hi, hz, hsize, hby2, hzs⟩ := E
  have hl := hb.lt
  obtain ⟨cs, b1, b2, b3, b4, b5⟩ := hb
  refine wp_append_lies w s x t ho base e i z R.n bytes ht hi hz hsize hby2 hzs hsz v xs.length cs hs b1 ⟨g, 0, none⟩ 1 k c.toList hx (by rw [R.len (R.own_rd hy), Nat.one_mul]) (World.news_of_block hg) h1 (by decide)
    (by unfold maxLen; omega) (Nat.le_trans (Nat.mul_le_mul hbytes hby) (by decide)) hbase w.heap.size rfl ?_
  intro g' cap w' hown hgr hat _
  have hat2 : (Value.slice (some ⟨g', 0, none⟩) (xs.length + 1) cap).ownBlock = v.ownBlock ∨ (Value.slice (some ⟨g', 0, none⟩) (xs.length + 1) cap).ownBlock = some w.heap.size := by
    rcases hat with hat | hat
    · exact .inl hat.symm
    · exact .inr (by rw [hat]; rfl)
  obtain ⟨h5, h6⟩ := bld_grown hl b2 b3 b4 b5 hy hG hown hgr hat2
  exact h _ _ h5 (h6 w0 h0 hx0) fun b hb2 hne => hgr.block b hb2 (fun e => hne e.symm)
theorem cell_of_same {w w2 : World} {b : Nat} (h : w2.heap[b]? = w.heap[b]?) (o : Nat) : w2.cell? ⟨b, o, none⟩ = w.cell? ⟨b, o, none⟩ := by unfold World.cell?; rw [h]
end Go.Proofs.Ytmembjjgkideeaa

namespace Go.Proofs.Ytmembjjgkideeaa
open Go.RowKit

/-- what is left of a measure: -1 where it does not fit -/
def szv (n left : Int) : Int := if left < n then -1 else left - n
def Small (x : Int) : Prop := -1 ≤ x ∧ x ≤ 1048576
theorem szv_neg {n left : Int} (h : left < n) : szv n left = -1 := by unfold szv; rw [if_pos h]
theorem szv_nn {n left : Int} (h : ¬ left < n) : 0 ≤ szv n left := by unfold szv; rw [if_neg h]; omega
theorem szv_le {n left : Int} (h : 0 ≤ n) (h0 : 0 ≤ left) : szv n left ≤ left := by unfold szv; split <;> omega
theorem szv_small {n left : Int} (h : 0 ≤ n) (hl : Small left) : Small (szv n left) := by unfold Small szv at *; split <;> omega

def sumLen {α : Type} (xs : List (List α)) : Nat := (xs.map List.length).sum
theorem sumLen_take {α : Type} (xs : List (List α)) (k : Nat) (h : k < xs.length) : sumLen (xs.take (k + 1)) = sumLen (xs.take k) + xs[k].length := by
  rw [List.take_succ_eq_append_getElem h]; unfold sumLen; rw [List.map_append, List.sum_append]; simp
theorem sumLen_le {α : Type} (xs : List (List α)) (k : Nat) : sumLen (xs.take k) ≤ sumLen xs := by
  have h := List.take_append_drop k xs
  have : sumLen xs = sumLen (xs.take k) + sumLen (xs.drop k) := by
    unfold sumLen; rw [← List.sum_append, ← List.map_append, h]
  omega
theorem sumLen_at {α : Type} (xs : List (List α)) (k : Nat) (h : k < xs.length) : sumLen (xs.take k) + xs[k].length ≤ sumLen xs := by
  rw [← sumLen_take xs k h]; exact sumLen_le _ _

theorem infoInts : (Try.prog.info? 29).map (fun i => (i.zero, i.size, i.bytes)) = some (some (.slice none 0 0), 1, 24) := by kernel_rfl

theorem sumLen_mem {α : Type} {xs : List (List α)} {x : List α} (h : x ∈ xs) : x.length ≤ sumLen xs := by
  obtain ⟨i, hi, rfl⟩ := List.getElem_of_mem h
  have := sumLen_at xs i hi
  omega
end Go.Proofs.Ytmembjjgkideeaa

namespace Go.Proofs.Ytmembjjgkideeaa
open Go.RowKit

/-- the index of the first that meets p, from k on, else -1 -/
def idxF {α : Type} (p : α → Bool) : Nat → List α → Int
  | _, [] => -1
  | k, x :: xs => if p x then (k : Int) else idxF p (k + 1) xs
theorem idxF_skip {α : Type} (p : α → Bool) (l r : List α) (k : Nat) (h : ∀ x ∈ l, p x = false) : idxF p k (l ++ r) = idxF p (k + l.length) r := by
  induction l generalizing k with
  | nil => simp
  | cons x l ih =>
    simp only [List.cons_append, idxF, h x (List.mem_cons_self ..), Bool.false_eq_true, if_false, List.length_cons]
    rw [ih (k + 1) (fun y hy => h y (List.mem_cons_of_mem _ hy)), show k + 1 + l.length = k + (l.length + 1) by omega]
theorem idxF_at {α : Type} (p : α → Bool) (xs : List α) (k : Nat) (hlt : k < xs.length) (hz : ∀ x ∈ xs.take k, p x = false) (h0 : p xs[k] = true) : idxF p 0 xs = k := by
  have e : xs.take k ++ (xs[k] :: xs.drop (k + 1)) = xs := by simp
  have e2 := idxF_skip p (xs.take k) (xs[k] :: xs.drop (k + 1)) 0 hz
  rw [e] at e2
  rw [e2]
  simp [idxF, h0]; omega
theorem idxF_all {α : Type} (p : α → Bool) (xs : List α) (k : Nat) (hk : ¬ k < xs.length) (hz : ∀ x ∈ xs.take k, p x = false) : idxF p 0 xs = -1 := by
  rw [List.take_of_length_le (by omega)] at hz
  have := idxF_skip p xs [] 0 hz
  rw [List.append_nil] at this
  rw [this]; rfl
theorem idxF_any {α : Type} (p : α → Bool) (xs : List α) (k : Nat) : decide (0 ≤ idxF p k xs) = xs.any p := by
  induction xs generalizing k with
  | nil => simp [idxF]
  | cons x xs ih =>
    simp only [idxF, List.any_cons]
    by_cases hp : p x = true
    · simp [hp]
    · simp [hp, ih (k + 1)]
theorem take_snoc_all {α : Type} (p : α → Prop) (xs : List α) (k : Nat) (hlt : k < xs.length) (hz : ∀ x ∈ xs.take k, p x) (h0 : p xs[k]) : ∀ x ∈ xs.take (k + 1), p x := by
  intro x hx
  rw [List.take_succ_eq_append_getElem hlt] at hx
  rcases List.mem_append.1 hx with hx | hx
  · exact hz x hx
  · simp only [List.mem_singleton] at hx; rw [hx]; exact h0

end Go.Proofs.Ytmembjjgkideeaa

namespace Go.Proofs.Ytmembjjgkideeaa
open Go.RowKit

/-- all stands but the blocks F -/
structure Chg (F : List Nat) (w w2 : World) : Prop where
  os : w2.os = w.os
  tape : w2.tape = w.tape
  output : w2.output = w.output
  size : w.heap.size ≤ w2.heap.size
  block : ∀ b, b < w.heap.size → b ∉ F → w2.heap[b]? = w.heap[b]?
theorem Chg.refl (F : List Nat) (w : World) : Chg F w w := ⟨rfl, rfl, rfl, Nat.le_refl _, fun _ _ _ => rfl⟩
theorem Chg.trans {F : List Nat} {a b c : World} (h : Chg F a b) (k : Chg F b c) : Chg F a c :=
  ⟨k.os.trans h.os, k.tape.trans h.tape, k.output.trans h.output, Nat.le_trans h.size k.size, fun i hi hn => (k.block i (Nat.lt_of_lt_of_le hi h.size) hn).trans (h.block i hi hn)⟩
theorem Chg.mono {F G : List Nat} {a b : World} (h : Chg F a b) (hs : ∀ x ∈ F, x ∈ G) : Chg G a b := ⟨h.os, h.tape, h.output, h.size, fun i hi hn => h.block i hi fun hm => hn (hs i hm)⟩
theorem Chg.of_ext {F : List Nat} {a b : World} (h : Ext a b) : Chg F a b := ⟨h.os, h.tape, h.output, h.size, fun _ hi _ => h.block hi⟩
theorem Chg.setCell {F : List Nat} {a b : World} (h : Chg F a b) {p : Addr} (hp : p.block ∈ F) (u : Value) : Chg F a (b.setCell p u) := by
  have hs := World.size_setCell b p u
  refine ⟨h.os, h.tape, h.output, by rw [hs]; exact h.size, fun i hi hn => ?_⟩
  have hne : i ≠ p.block := fun e => hn (by rw [e]; exact hp)
  rw [keep_setCell hne]
  exact h.block i hi hn
/-- what is new since w0 alone was written -/
theorem Chg.ext {F : List Nat} {w0 a b : World} (h : Chg F a b) (hF : ∀ x ∈ F, w0.heap.size ≤ x) (x : Ext w0 a) : Ext w0 b :=
  ⟨h.os.trans x.os, h.tape.trans x.tape, h.output.trans x.output, Nat.le_trans x.size h.size, fun k hk => (h.block k (Nat.lt_of_lt_of_le hk x.size) fun hm => by have := hF k hm; omega).trans (x.block hk)⟩
/-- two sets of blocks -/
def Dis (F G : List Nat) : Prop := ∀ b ∈ F, b ∉ G
theorem Dis.symm {F G : List Nat} (h : Dis F G) : Dis G F := fun b hb hf => h b hf hb
theorem Dis.new {w : World} {F G : List Nat} (hF : ∀ b ∈ F, b < w.heap.size) (hG : NewF w G) : Dis F G := fun b hb hg => by
  have := hF b hb
  have := hG.2 b hg
  omega
theorem Chg.keep {α : Type} {R : RepO α} {w w2 : World} {cs : List Value} {x : α} {F G : List Nat} (h : Chg G w w2) (d : Dis F G) (o : R.own w cs x F) : R.own w2 cs x F :=
  R.own_keep (fun b hb => h.block b (R.own_lt o b hb) (d b hb)) o
theorem Chg.keepSl {α : Type} {R : RepO α} {w w2 : World} {v : Value} {xs : List α} {F G : List Nat} (h : Chg G w w2) (d : Dis F G) (o : OwnSl R w v xs F) : OwnSl R w2 v xs F :=
  o.keep fun b hb => h.block b (o.lt b hb) (d b hb)

/-- how many numbers a value takes when it is marked; what it is then -/
structure Mk (α : Type) where
  cnt : α → Nat
  is : Int → α → α → Prop
def intMk : Mk Int := ⟨fun _ => 1, fun k _ y => y = k⟩
def Mk.sum {α : Type} (M : Mk α) (xs : List α) : Nat := (xs.map M.cnt).sum
def lstMk {α : Type} (M : Mk α) : Mk (List α) := ⟨M.sum, fun k xs ys => ys.length = xs.length ∧ ∀ (j : Nat) (h : j < xs.length) (h2 : j < ys.length), M.is (k + (M.sum (xs.take j) : Nat)) xs[j] ys[j]⟩
theorem Mk.sum_step {α : Type} (M : Mk α) (xs : List α) (i : Nat) (h : i < xs.length) : M.sum (xs.take (i + 1)) = M.sum (xs.take i) + M.cnt xs[i] := by
  rw [List.take_succ_eq_append_getElem h]; unfold Mk.sum; rw [List.map_append, List.sum_append]; simp
theorem Mk.sum_le {α : Type} (M : Mk α) (xs : List α) (i : Nat) : M.sum (xs.take i) ≤ M.sum xs := by
  have h := List.take_append_drop i xs
  have : M.sum xs = M.sum (xs.take i) + M.sum (xs.drop i) := by
    unfold Mk.sum; rw [← List.sum_append, ← List.map_append, h]
  omega
theorem Mk.sum_at {α : Type} (M : Mk α) (xs : List α) (i : Nat) (h : i < xs.length) : M.sum (xs.take i) + M.cnt xs[i] ≤ M.sum xs := by
  rw [← M.sum_step xs i h]; exact M.sum_le _ _
theorem Mk.sum_all {α : Type} (M : Mk α) (xs : List α) (i : Nat) (h : ¬ i < xs.length) : M.sum (xs.take i) = M.sum xs := by rw [List.take_of_length_le (by omega)]
theorem intMk_sum (xs : List Int) : intMk.sum xs = xs.length := by
  unfold Mk.sum intMk
  induction xs with
  | nil => rfl
  | cons x xs ih => simp only [List.map_cons, List.sum_cons, List.length_cons, ih]; omega

/-- the first i are marked, the rest is as it was -/
structure Part {α : Type} (M : Mk α) (k : Int) (xs ys : List α) (i : Nat) : Prop where
  len : ys.length = xs.length
  done : ∀ (j : Nat) (h : j < xs.length) (h2 : j < ys.length), j < i → M.is (k + (M.sum (xs.take j) : Nat)) xs[j] ys[j]
  rest : ∀ (j : Nat) (h : j < xs.length) (h2 : j < ys.length), i ≤ j → ys[j] = xs[j]
theorem Part.zero {α : Type} (M : Mk α) (k : Int) (xs : List α) : Part M k xs xs 0 := ⟨rfl, fun _ _ _ h => by omega, fun _ _ _ _ => rfl⟩
theorem Part.all {α : Type} {M : Mk α} {k : Int} {xs ys : List α} {i : Nat} (h : Part M k xs ys i) (hi : ¬ i < xs.length) : (lstMk M).is k xs ys := ⟨h.len, fun j hj h2 => h.done j hj h2 (by omega)⟩
theorem Part.at_ {α : Type} {M : Mk α} {k : Int} {xs ys : List α} {i : Nat} (h : Part M k xs ys i) (hi : i < xs.length) : ∃ hy : i < ys.length, ys[i] = xs[i] :=
  ⟨by have := h.len; omega, h.rest i hi _ (Nat.le_refl _)⟩
theorem Part.step {α : Type} {M : Mk α} {k : Int} {xs ys : List α} {i : Nat} (h : Part M k xs ys i) (hi : i < xs.length) {y : α} (hy : M.is (k + (M.sum (xs.take i) : Nat)) xs[i] y) : Part M k xs (ys.set i y) (i + 1) := by
  refine ⟨by rw [List.length_set]; exact h.len, fun j hj h2 hlt => ?_, fun j hj h2 hge => ?_⟩
  · rw [List.getElem_set]
    by_cases e : i = j
    · subst e; rw [if_pos rfl]; exact hy
    · rw [if_neg e]; exact h.done j hj _ (by omega)
  · rw [List.getElem_set, if_neg (by omega)]
    exact h.rest j hj _ (by omega)
end Go.Proofs.Ytmembjjgkideeaa

namespace Go.Proofs.Ytmembjjgkideeaa
open Go.RowKit

set_option maxHeartbeats 400000 in
theorem impl_isMember (x : Int) (w : World) :
    Calls Try.prog 86 #[.int .i64 x] w fun e w2 => e = .returned (.bool (inB x 1 399)) ∧ w = w2 := by
  go_enter Try.func86, Try.ntmps86
  go_wp2_with (go_at_call 56; refine (impl_within _ _ _ _).mono ?_; rintro e w2 ⟨rfl, rfl⟩)
  go_ret
  exact ⟨rfl, rfl⟩

end Go.Proofs.Ytmembjjgkideeaa

namespace Go.Proofs.Ytmembjjgkideeaa
open Go.RowKit

/-- data of w0: they own nothing here -/
def atO {α : Type} (R : Rep α) (w0 : World) : RepO α :=
  { n := R.n
    rd := fun _ cs x => R.rd w0 cs x
    len := R.len
    mono := fun _ h => h
    own := fun _ cs x F => R.rd w0 cs x ∧ F = []
    own_rd := fun h => h.1
    own_lt := fun h b hb => by rw [h.2] at hb; cases hb
    own_keep := fun _ h => h }
theorem Sl.of_at {α : Type} {R : Rep α} {w0 w : World} {v : Value} {xs : List α} (h : Sl (atO R w0).toRep w v xs) (e : Ext w0 w) : Sl R w v xs := by
  obtain ⟨A, cap, rfl, hm, hi⟩ := h
  refine ⟨A, cap, rfl, hm, fun i h => ?_⟩
  obtain ⟨b, off, cs, rfl, hr, hc⟩ := hi i h
  exact ⟨b, off, cs, rfl, R.mono e hr, hc⟩
end Go.Proofs.Ytmembjjgkideeaa

namespace Go.Proofs.Ytmembjjgkideeaa
open Go.RowKit

/-- many stores into a block that is known whole -/
theorem Blk.setCells {g : Nat} {e : TypeId} : ∀ (vs b a c : List Value) (o : Nat) (w : World), Blk w g e (a ++ (b ++ c)) → a.length = o → b.length = vs.length → Blk (w.setCells g o vs) g e (a ++ (vs ++ c))
  | [], b, a, c, o, w, h, _, hb => by
    have : b = [] := List.eq_nil_of_length_eq_zero hb
    subst this
    exact h
  | v :: vs, [], a, c, o, w, h, _, hb => by simp at hb
  | v :: vs, x :: b, a, c, o, w, h, ha, hb => by
    have h1 : Blk (w.setCell ⟨g, o, none⟩ v) g e ((a ++ [v]) ++ (b ++ c)) := Blk.store (done := a) (z := x) (rest := b ++ c) h ha v
    have h2 := Blk.setCells vs b (a ++ [v]) c (o + 1) _ h1 (by rw [List.length_append, ha]; rfl) (by simpa using hb)
    rw [World.setCells]
    rwa [List.append_assoc, List.singleton_append, ← List.cons_append] at h2
theorem heap_setCells {g : Nat} {e : TypeId} (vs : List Value) (o : Nat) (w : World) (cur : Array Value) (h : w.heap[g]? = some (.cells cur e (0, 0))) (hl : o + vs.length ≤ cur.size) :
    (w.setCells g o vs).heap[g]? = some (.cells (cur.toList.take o ++ (vs ++ cur.toList.drop (o + vs.length))).toArray e (0, 0)) := by
  have e1 : cur.toList = cur.toList.take o ++ ((cur.toList.drop o).take vs.length ++ cur.toList.drop (o + vs.length)) := by
    rw [← List.drop_drop, List.take_append_drop, List.take_append_drop]
  have h0 : Blk w g e (cur.toList.take o ++ ((cur.toList.drop o).take vs.length ++ cur.toList.drop (o + vs.length))) := by
    rw [← e1]; unfold Blk; simpa using h
  exact Blk.setCells vs _ _ _ o w h0 (by simp; omega) (by simp; omega)
theorem setCells_keep {g b : Nat} (hb : b ≠ g) : ∀ (vs : List Value) (o : Nat) (w : World), (w.setCells g o vs).heap[b]? = w.heap[b]?
  | [], _, _ => rfl
  | v :: vs, o, w => by rw [World.setCells, setCells_keep hb vs, keep_setCell hb]
theorem setCells_size {g : Nat} : ∀ (vs : List Value) (o : Nat) (w : World), (w.setCells g o vs).heap.size = w.heap.size
  | [], _, _ => rfl
  | v :: vs, o, w => by rw [World.setCells, setCells_size vs]; exact World.size_setCell _ _ _
theorem Ext.setCells {a : World} {g : Nat} (hg : a.heap.size ≤ g) : ∀ (vs : List Value) (o : Nat) {b : World}, Ext a b → Ext a (b.setCells g o vs)
  | [], _, _, h => h
  | v :: vs, o, _, h => by rw [World.setCells]; exact Ext.setCells hg vs (o + 1) (h.setCell hg v)
/-- 'clear(s)', s a slice of n > 0 elements of several cells -/
theorem run_clear_many {P : Program} (w : World) (t e ty : TypeId) (z : Value) (zs : List Value) (ht : P.underlying t = some (.slice e)) (hv : ∀ w, (zeroValue e).run P w = .ok z w) (hz : z.cells = zs.toArray) (h1 : ∀ u ∈ zs, u.oneCell' = true)
    (b o n c : Nat) (hn : 0 < n) (hc : ∀ j, j < n * zs.length → (w.cell? ⟨b, o + j, none⟩).isSome = true) (hf : ∀ j, j < n * zs.length → w.frozen? ⟨b, o + j, none⟩ = false) :
    (Builtin.clear_ #[t] ty #[.slice (some ⟨b, o, none⟩) n c]).run P w = .ok (.tuple #[]) (w.setCells b o (List.replicate n zs).flatten) := by
  have hzc : (Builtin.zeroCells z.cells n).toList = (List.replicate n zs).flatten := by
    rw [hz, ← madeCells_flat]
    simp [Builtin.zeroCells, madeCells]
  have hl : (List.replicate n zs).flatten.length = n * zs.length := by simp
  have hst := run_storeCells_cells (P := P) b o (List.replicate n zs).flatten 0 w (by simpa [hl] using hc) (by simpa [hl] using hf) (by
    intro v hv'
    obtain ⟨l, hl, hv'⟩ := List.mem_flatten.1 hv'
    rw [List.eq_of_mem_replicate hl] at hv'
    exact h1 v hv')
  simp only [Nat.add_zero] at hst
  obtain ⟨m, rfl⟩ : ∃ m, n = m + 1 := ⟨n - 1, by omega⟩
  simp [Builtin.clear_, run_underlying ht, hv, hzc, hst]

section
variable {α : Type} {R : RepO α} {w w2 : World} {base : Nat} {e : TypeId} {v : Value} {xs : List α} {F : List Nat}
/-- a row that grows, and is not nil: its parts -/
theorem Bld.parts (h : Bld R w base e v xs F) (hne : 0 < xs.length) : ∃ g cap cur, v = .slice (some ⟨g, 0, none⟩) xs.length cap ∧ base ≤ g ∧ g < w.heap.size ∧ w.heap[g]? = some (.cells cur e (0, 0)) ∧ xs.length ≤ cap ∧ cap ≤ maxLen ∧ cur.size = cap * R.n ∧
    OwnCells R w (cur.toList.take (xs.length * R.n)) xs F ∧ g ∉ F ∧ F.Nodup ∧ ∀ b ∈ F, base ≤ b := by
  obtain ⟨cs, h1, h2, h3, h4, h5⟩ := h
  rcases h1.2 with ⟨rfl, hn⟩ | ⟨g, cap, cur, rfl, hb, hh, hnc, hcm, hcs, htake⟩
  · omega
  · exact ⟨g, cap, cur, rfl, hb, block_lt hh, hh, hnc, hcm, hcs, by rw [htake]; exact h2, h3 g rfl, h4, h5⟩
theorem Bld.of_parts {g cap n : Nat} {cur : Array Value} (hn : n = xs.length) (hb : base ≤ g) (hh : w.heap[g]? = some (.cells cur e (0, 0))) (hnc : xs.length ≤ cap) (hcm : cap ≤ maxLen) (hcs : cur.size = cap * R.n)
    (ho : OwnCells R w (cur.toList.take (xs.length * R.n)) xs F) (hg : g ∉ F) (hF : F.Nodup) (h5 : ∀ b ∈ F, base ≤ b) : Bld R w base e (.slice (some ⟨g, 0, none⟩) n cap) xs F := by
  subst hn
  refine ⟨_, ⟨ho.length, .inr ⟨g, cap, cur, rfl, hb, hh, hnc, hcm, hcs, rfl⟩⟩, ho, fun g2 hg2 => ?_, hF, h5⟩
  injection hg2 with hg2
  subst hg2
  exact hg
end
end Go.Proofs.Ytmembjjgkideeaa

namespace Go.Proofs.Ytmembjjgkideeaa
open Go.RowKit

def cmpL : List Int → List Int → Int
  | [], [] => 0
  | [], _ :: _ => -1
  | _ :: _, [] => 1
  | x :: xs, y :: ys => if x = y then cmpL xs ys else cmpI x y
theorem cmpL_skip : ∀ {xs ys : List Int} {k : Nat}, xs.take k = ys.take k → k ≤ xs.length → k ≤ ys.length → cmpL xs ys = cmpL (xs.drop k) (ys.drop k)
  | _, _, 0, _, _, _ => rfl
  | [], _, k + 1, _, h, _ => by simp at h
  | _ :: _, [], k + 1, _, _, h => by simp at h
  | x :: xs, y :: ys, k + 1, h, h1, h2 => by
    simp only [List.take_succ_cons, List.cons.injEq] at h
    rw [cmpL, if_pos h.1, List.drop_succ_cons, List.drop_succ_cons]
    exact cmpL_skip h.2 (by simpa using h1) (by simpa using h2)
theorem cmpL_at {xs ys : List Int} {k : Nat} (h1 : k < xs.length) (h2 : k < ys.length) (h : xs.take k = ys.take k) (hne : ¬ xs[k] = ys[k]) : cmpL xs ys = cmpI xs[k] ys[k] := by
  rw [cmpL_skip h (by omega) (by omega), List.drop_eq_getElem_cons h1, List.drop_eq_getElem_cons h2, cmpL, if_neg hne]
theorem cmpL_end {xs ys : List Int} {k : Nat} (hk1 : k ≤ xs.length) (hk2 : k ≤ ys.length) (h : xs.take k = ys.take k) (he : ¬ (k < xs.length ∧ k < ys.length)) : cmpL xs ys = cmpI xs.length ys.length := by
  rw [cmpL_skip h hk1 hk2]
  by_cases h1 : k < xs.length
  · have h2 : k = ys.length := by omega
    rw [List.drop_eq_getElem_cons h1, show ys.drop k = [] from List.drop_of_length_le (by omega), cmpL]
    unfold cmpI; rw [if_neg (by omega), if_pos (by omega)]
  · rw [show xs.drop k = [] from List.drop_of_length_le (by omega)]
    by_cases h2 : k < ys.length
    · rw [List.drop_eq_getElem_cons h2, cmpL]
      unfold cmpI; rw [if_pos (by omega)]
    · rw [show ys.drop k = [] from List.drop_of_length_le (by omega), cmpL]
      unfold cmpI; rw [if_neg (by omega), if_neg (by omega)]
theorem cmpL_zero : ∀ {xs ys : List Int}, cmpL xs ys = 0 ↔ xs = ys
  | [], [] => by simp [cmpL]
  | [], _ :: _ => by simp [cmpL]
  | _ :: _, [] => by simp [cmpL]
  | x :: xs, y :: ys => by
    rw [cmpL]
    split
    · rename_i h; rw [cmpL_zero]; simp [h]
    · rename_i h; rw [cmpI_zero]; simp [h]
theorem cmpL_64 : ∀ (xs ys : List Int), I64 (cmpL xs ys)
  | [], [] => by simp [cmpL, I64]
  | [], _ :: _ => by simp [cmpL, I64]
  | _ :: _, [] => by simp [cmpL, I64]
  | x :: xs, y :: ys => by
    rw [cmpL]
    split
    · exact cmpL_64 xs ys
    · exact cmpI_64 _ _

end Go.Proofs.Ytmembjjgkideeaa

namespace Go.Proofs.Ytmembjjgkideeaa
open Go.RowKit
end Go.Proofs.Ytmembjjgkideeaa

namespace Go.Proofs.Ytmembjjgkideeaa
open Go.RowKit

def idxI (x : Int) (xs : List Int) : Int := idxF (fun y => y == x) 0 xs
def hasI (x : Int) (xs : List Int) : Bool := xs.any fun y => y == x
theorem hasI_iff (x : Int) (xs : List Int) : hasI x xs = true ↔ x ∈ xs := by simp [hasI]
theorem idxI_nn (x : Int) (xs : List Int) : decide (0 ≤ idxI x xs) = hasI x xs := idxF_any _ _ _
theorem idxF_lt {α : Type} (p : α → Bool) (xs : List α) (k : Nat) : -1 ≤ idxF p k xs ∧ idxF p k xs < k + xs.length := by
  induction xs generalizing k with
  | nil => simp [idxF]; omega
  | cons x xs ih =>
    simp only [idxF, List.length_cons]
    split
    · omega
    · have := ih (k + 1); omega
theorem idxI_bd (x : Int) (xs : List Int) : -1 ≤ idxI x xs ∧ idxI x xs < xs.length := by
  have := idxF_lt (fun y => y == x) xs 0
  unfold idxI; omega

set_option maxHeartbeats 400000 in
theorem spec_l24Find (v : Value) (xs : List Int) (x : Int) (w : World) (h : Sl intR w v xs) :
    Calls Try.prog 79 #[v, .int .i64 x] w fun e w2 => e = .returned (.int .i64 (idxI x xs)) ∧ w = w2 := by
  obtain ⟨A, cap, rfl, hm⟩ := h.form
  go_enter Try.func79, Try.ntmps79
  go_wp2
  go_loop [5] (fun i => ∃ k : Nat, k ≤ xs.length ∧ i = .int .i64 k ∧ ∀ y ∈ xs.take k, (y == x) = false) (fun i => xs.length - (intOf i).toNat)
  case atStart => exact ⟨0, Nat.zero_le _, rfl, by simp⟩
  case round =>
    obtain ⟨k, hk, rfl, hz⟩ := hrel
    have HZ := hid hz
    clear hz
    by_cases hlt : k < xs.length
    · obtain ⟨b, off, rfl, hb, hc⟩ := h.int hlt
      by_cases h0 : xs[k] = x
      · have h1 : (xs[k] == x) = true := by simp [h0]
        have H0 := hid h0
        clear h0
        go_wp2
        go_ret
        exact ⟨ret_int (idxF_at (fun y => y == x) xs k hlt HZ.out (by simp [H0.out])).symm, rfl⟩
      · have h1 : (xs[k] == x) = false := by rw [beq_eq_false_iff_ne]; first | exact h0 | exact fun e => h0 e.symm
        have H0 := hid h0
        clear h0
        go_wp2
        go_round
        case rel => exact ⟨k + 1, by omega, by go_num, take_snoc_all _ xs k hlt HZ.out (by simp [H0.out])⟩
        case measure => simp [intOf]; omega
    · go_wp2
      go_ret
      exact ⟨ret_int (idxF_all _ xs k hlt HZ.out).symm, rfl⟩
set_option maxHeartbeats 400000 in
theorem slices_Index (v : Value) (xs : List Int) (x : Int) (w : World) (h : Sl intR w v xs) :
    Calls Try.prog 34 #[v, .int .i64 x] w fun e w2 => e = .returned (.int .i64 (idxI x xs)) ∧ w = w2 := by
  obtain ⟨A, cap, rfl, hm⟩ := h.form
  go_enter Try.func34, Try.ntmps34
  go_wp2
  go_loop [8] (fun i => ∃ k : Nat, k ≤ xs.length ∧ i = .int .i64 k ∧ ∀ y ∈ xs.take k, (y == x) = false) (fun i => xs.length - (intOf i).toNat)
  case atStart => exact ⟨0, Nat.zero_le _, rfl, by simp⟩
  case round =>
    obtain ⟨k, hk, rfl, hz⟩ := hrel
    have HZ := hid hz
    clear hz
    by_cases hlt : k < xs.length
    · obtain ⟨b, off, rfl, hb, hc⟩ := h.int hlt
      by_cases h0 : xs[k] = x
      · have h1 : (x == xs[k]) = true := by simp [h0]
        have H0 := hid h0
        clear h0
        go_wp2
        go_ret
        exact ⟨ret_int (idxF_at (fun y => y == x) xs k hlt HZ.out (by simp [H0.out])).symm, rfl⟩
      · have h1 : (x == xs[k]) = false := by rw [beq_eq_false_iff_ne]; first | exact h0 | exact fun e => h0 e.symm
        have H0 := hid h0
        clear h0
        go_wp2
        go_round
        case rel => exact ⟨k + 1, by omega, by go_num, take_snoc_all _ xs k hlt HZ.out (by simp [H0.out])⟩
        case measure => simp [intOf]; omega
    · go_wp2
      go_ret
      exact ⟨ret_int (idxF_all _ xs k hlt HZ.out).symm, rfl⟩

end Go.Proofs.Ytmembjjgkideeaa

namespace Go.Proofs.Ytmembjjgkideeaa
open Go.RowKit
theorem elemInt : ElemT Try.prog 29 3 intO.n 8 := by
  obtain ⟨i, h1, h2, h3, h4⟩ := info_parts infoInt
  exact ⟨Try.underlying29, i, _, h1, h2, h3, h4, rfl⟩
theorem elemInts : ElemT Try.prog 49 29 (slO intO).n 24 := by
  obtain ⟨i, h1, h2, h3, h4⟩ := info_parts infoInts
  exact ⟨Try.underlying49, i, _, h1, h2, h3, h4, rfl⟩
theorem one_int (x : Int) : ∀ u ∈ (#[Value.int .i64 x] : Array Value).toList, u.oneCell' = true := by simp [Value.oneCell']
theorem one_slice (A : Option Addr) (n c : Nat) : ∀ u ∈ (#[Value.slice A n c] : Array Value).toList, u.oneCell' = true := by simp [Value.oneCell']
theorem own_int (W : World) (x : Int) (h : I64 x) : intO.own W (#[Value.int .i64 x] : Array Value).toList x [] := ⟨⟨rfl, h⟩, rfl⟩
end Go.Proofs.Ytmembjjgkideeaa

namespace Go.Proofs.Ytmembjjgkideeaa
open Go.RowKit
theorem flat_len {α β : Type} (f : α → List β) (hf : ∀ x, (f x).length ≤ 1) (xs : List α) : (xs.flatMap f).length ≤ xs.length := by
  induction xs with
  | nil => simp
  | cons x xs ih => rw [List.flatMap_cons, List.length_append, List.length_cons]; have := hf x; omega
theorem flat_step {α β : Type} (f : α → List β) (xs : List α) (k : Nat) (h : k < xs.length) : (xs.take (k + 1)).flatMap f = (xs.take k).flatMap f ++ f xs[k] := by
  rw [List.take_succ_eq_append_getElem h, List.flatMap_append]; simp
theorem flat_take_len {α β : Type} (f : α → List β) (hf : ∀ x, (f x).length ≤ 1) (xs : List α) (k : Nat) : ((xs.take k).flatMap f).length ≤ xs.length := by
  have := flat_len f hf (xs.take k)
  rw [List.length_take] at this; omega
end Go.Proofs.Ytmembjjgkideeaa

namespace Go.Proofs.Ytmembjjgkideeaa
open Go.RowKit

theorem ownsRowG_lt {w : World} {base n : Nat} {e : TypeId} {m : Nat} {v : Value} {cs : List Value} (h : w.ownsRow base e n v m cs) : ∀ g, v.ownBlock = some g → g < w.heap.size ∧ base ≤ g := fun g hg => by
  rcases h.2 with ⟨rfl, _⟩ | ⟨g', cap, cur, rfl, hb, hh, _⟩
  · cases hg
  · injection hg with hg
    subst hg
    exact ⟨block_lt hh, hb⟩
theorem step_appg {P : Program} {ops : Array Oper} {o : Oper} {a : Act} {w : World} {K : Act → World → Prop} {Q : Exit → Act → World → Prop} {Z : Prop} {t e : TypeId} {bytes sz : Nat} (hsz : 0 < sz) (E : ElemT P t e sz bytes) (hby : bytes ≤ 128)
    (hgd : o.guard = none) (s x : Operand) (ho : o.op = .call { callee := .builtin .append, args := #[s, x], argTypes := #[t, t] })
    {base m : Nat} {v : Value} {cs : List Value} (hb : w.ownsRow base e sz v m cs) (hs : a.eval s = v) {A : Option Addr} {n k : Nat} (hx : a.eval x = .slice A n k) {news : List Value} (hl : news.length = n * sz)
    (hc : 0 < n → ∃ ad, A = some ad ∧ ∀ j u, news[j]? = some u → w.cell? (ad.add j) = some u) (h1 : ∀ u ∈ news, u.oneCell' = true)
    (hbytes : m + n ≤ 1099511627776) (hbase : base ≤ w.heap.size) {w0 : World} (h0 : w0.heap.size ≤ base) (hx0 : Ext w0 w)
    (h : ∀ v' w', w'.ownsRow base e sz v' (m + n) (cs ++ news) → Ext w0 w' → (∀ b, b < w.heap.size → v.ownBlock ≠ some b → w'.heap[b]? = w.heap[b]?) → K (a.put o.dst v') w') :
    if Region.wanted o (yielded ops a.tmps) = true then Oper.wp P o a w K Q else Z := by
  have hw : Region.wanted o (yielded ops a.tmps) = true := by simp [Region.wanted, hgd]
  rw [if_pos hw]
  obtain ⟨ht, i, z, hi, hz, hsize, hby2, hzs⟩ := E
  by_cases hm : 0 < n
  · obtain ⟨ad, rfl, hcc⟩ := hc hm
    refine wp_append_lies w s x t ho base e i z sz bytes ht hi hz hsize hby2 hzs hsz v m cs hs hb ad n k news hx hl hcc h1 hm (by unfold maxLen; omega)
      (Nat.le_trans (Nat.mul_le_mul (show m + n ≤ 1099511627776 by omega) hby) (by decide)) hbase w.heap.size rfl ?_
    intro g' cap w' hown hgr _ _
    exact h _ _ hown (hx0.grown hgr fun g hg => Nat.le_trans h0 (ownsRowG_lt hb g hg).2) fun b hb2 hne => hgr.block b hb2 (fun e => hne e.symm)
  · have hn0 : n = 0 := by omega
    subst hn0
    have hys : news = [] := List.eq_nil_of_length_eq_zero (by rw [hl, Nat.zero_mul])
    subst hys
    have hb0 := hb
    have hr : (Builtin.append_ #[t, t] o.type #[v, .slice A 0 k]).run P w = .ok v w := by
      rcases hb.2 with ⟨rfl, _⟩ | ⟨g, cap, cur, rfl, _, _, hnc, _⟩
      · cases A <;> simp [Builtin.append_, run_underlying ht, sizeOf, typeInfo, hi, Builtin.lenOf, Builtin.firstCells, storeCells, loadCells, loadCellsFrom]
      · cases A <;> simp [Builtin.append_, run_underlying ht, sizeOf, typeInfo, hi, Builtin.lenOf, Builtin.firstCells, hnc, storeCells, loadCells, loadCellsFrom]
    unfold Oper.wp execOp
    simp only [ho, resolve, invoke, builtin, Sem.run_bind, Sem.run_pure, Result.andThen_ok, List.map_toArray, List.map_cons, List.map_nil, hs, hx, hr]
    exact h v w (by rw [List.append_nil]; exact hb0) hx0 fun _ _ _ => rfl

theorem Sl.cells_at {α : Type} {R : Rep α} {w : World} : ∀ (xs : List α) (b off : Nat), (∀ i (hi : i < xs.length), ∃ cs, R.rd w cs xs[i] ∧ ∀ j, j < R.n → w.cell? ⟨b, off + i * R.n + j, none⟩ = cs[j]?) →
    ∃ cs, OwnCells (atO R w) w cs xs [] ∧ cs.length = xs.length * R.n ∧ ∀ j, j < xs.length * R.n → w.cell? ⟨b, off + j, none⟩ = cs[j]?
  | [], b, off, _ => ⟨[], .nil, by simp, fun j hj => by simp at hj⟩
  | x :: xs, b, off, h => by
    obtain ⟨c, h1, h2⟩ := h 0 (by simp)
    obtain ⟨d, k1, k2, k3⟩ := Sl.cells_at xs b (off + R.n) (fun i hi => by
      obtain ⟨cs, a1, a2⟩ := h (i + 1) (by simpa using hi)
      refine ⟨cs, by simpa using a1, fun j hj => ?_⟩
      rw [← a2 j hj, Nat.add_mul, show off + R.n + i * R.n + j = off + (i * R.n + 1 * R.n) + j by omega])
    have hc : c.length = R.n := R.len h1
    refine ⟨c ++ d, ⟨c, d, [], [], rfl, rfl, ⟨by simpa using h1, rfl⟩, k1⟩, ?_, fun j hj => ?_⟩
    · rw [List.length_append, hc, k2, List.length_cons, Nat.add_mul]; omega
    · rw [List.length_cons, Nat.add_mul, Nat.one_mul] at hj
      by_cases hlt : j < R.n
      · rw [List.getElem?_append_left (by omega), ← h2 j hlt]
        simp
      · rw [List.getElem?_append_right (by omega), hc, ← k3 (j - R.n) (by omega), show off + R.n + (j - R.n) = off + j by omega]
/-- a slice's cells -/
theorem Sl.cells_ {α : Type} {R : Rep α} {w : World} {A : Option Addr} {n k : Nat} {ys : List α} (h : Sl R w (.slice A n k) ys) : ∃ cs, OwnCells (atO R w) w cs ys [] ∧ cs.length = n * R.n ∧ (0 < n → ∃ ad, A = some ad ∧ ∀ (W : World), Ext w W → ∀ j u, cs[j]? = some u → W.cell? (ad.add j) = some u) := by
  have hn : n = ys.length := h.cap_.1
  subst hn
  cases hy : ys with
  | nil => exact ⟨[], .nil, by simp, fun h => by simp at h⟩
  | cons y l =>
    rw [← hy]
    have h0 : 0 < ys.length := by rw [hy]; simp
    obtain ⟨b, off, _, e, _⟩ := h.at_ h0
    subst e
    obtain ⟨cs, k1, k2, k3⟩ := Sl.cells_at ys b off (fun i hi => by
      obtain ⟨b2, off2, c, e, a1, a2⟩ := h.at_ hi
      injection e with e
      injection e with e1 e2 _
      subst e1
      subst e2
      exact ⟨c, a1, a2⟩)
    refine ⟨cs, k1, k2, fun _ => ⟨_, rfl, fun W hW j u hu => ?_⟩⟩
    have hj : j < ys.length * R.n := by rw [← k2]; exact (List.getElem?_eq_some_iff.1 hu).1
    rw [show (⟨b, off, none⟩ : Addr).add j = ⟨b, off + j, none⟩ by by_cases h0 : j = 0 <;> simp [Addr.add, h0]]
    exact hW.cell ((k3 j hj).trans hu)
/-- such elements, appended -/
theorem step_appS {P : Program} {α : Type} {R : Rep α} {ops : Array Oper} {o : Oper} {a : Act} {w : World} {K : Act → World → Prop} {Q : Exit → Act → World → Prop} {Z : Prop} {t e : TypeId} {bytes : Nat} (hsz : 0 < R.n) (E : ElemT P t e R.n bytes) (hby : bytes ≤ 128)
    (hone : ∀ (w : World) cs x, R.rd w cs x → ∀ u ∈ cs, u.oneCell' = true)
    (hgd : o.guard = none) (s x : Operand) (ho : o.op = .call { callee := .builtin .append, args := #[s, x], argTypes := #[t, t] })
    {base : Nat} {v : Value} {xs ys : List α} {w1 : World} (hb : Bld (atO R w1) w base e v xs []) (hs : a.eval s = v) {A : Option Addr} {n k : Nat} (hx : a.eval x = .slice A n k) (hy : Sl R w1 (.slice A n k) ys) (hxw : Ext w1 w)
    (hbytes : xs.length + n ≤ 1099511627776) (hbase : base ≤ w.heap.size) {w0 : World} (h0 : w0.heap.size ≤ base) (hx0 : Ext w0 w)
    (h : ∀ v' w', Bld (atO R w1) w' base e v' (xs ++ ys) [] → Ext w0 w' → (∀ b, b < w.heap.size → v.ownBlock ≠ some b → w'.heap[b]? = w.heap[b]?) → K (a.put o.dst v') w') :
    if Region.wanted o (yielded ops a.tmps) = true then Oper.wp P o a w K Q else Z := by
  obtain ⟨news, k1, k2, k3⟩ := hy.cells_
  have hn : n = ys.length := hy.cap_.1
  obtain ⟨cs, b1, b2, b3, b4, b5⟩ := hb
  have one : ∀ {xs : List α} {cs : List Value} {F : List Nat}, OwnCells (atO R w1) w1 cs xs F → ∀ u ∈ cs, u.oneCell' = true := by
    intro xs
    induction xs with
    | nil => intro cs F h u hu; rw [h.1] at hu; cases hu
    | cons x xs ih =>
      rintro cs F ⟨c, d, F1, F2, rfl, _, ⟨h2, _⟩, h4⟩ u hu
      rcases List.mem_append.1 hu with hu | hu
      · exact hone w1 c x h2 u hu
      · exact ih h4 u hu
  refine step_appg hsz E hby hgd s x ho b1 hs hx k2 (fun hp => by
    obtain ⟨ad, e1, e2⟩ := k3 hp
    exact ⟨ad, e1, fun j u hu => e2 w hxw j u hu⟩) (one k1) hbytes hbase h0 hx0 ?_
  intro v' w' hown hE hk
  refine h v' w' ⟨cs ++ news, by rw [List.length_append, ← hn]; exact hown, ?_, fun _ _ hm => (by cases hm), List.nodup_nil, fun _ hm => by cases hm⟩ hE hk
  have := OwnCells.append (b2.keep (w2 := w') fun b hb => by cases hb) (k1.keep (w2 := w') fun b hb => by cases hb)
  simpa using this
end Go.Proofs.Ytmembjjgkideeaa

namespace Go.Proofs.Ytmembjjgkideeaa
open Go.RowKit

structure Q4 where
  a : Value
  b : Value
  c : Value
  d : Value
def Q4.cells (q : Q4) : List Value := [q.a, q.b, q.c, q.d]
def Q4.val (q : Q4) : Value := .agg #[q.a, q.b, q.c, q.d]
def Q4.one (q : Q4) : Prop := q.a.oneCell' = true ∧ q.b.oneCell' = true ∧ q.c.oneCell' = true ∧ q.d.oneCell' = true
def flatQ (es : List Q4) : List Value := es.flatMap Q4.cells
theorem flatQ_nil : flatQ [] = [] := rfl
theorem flatQ_cons (q : Q4) (es : List Q4) : flatQ (q :: es) = q.cells ++ flatQ es := List.flatMap_cons
theorem flatQ_app (xs ys : List Q4) : flatQ (xs ++ ys) = flatQ xs ++ flatQ ys := List.flatMap_append
theorem flatQ_len (es : List Q4) : (flatQ es).length = es.length * 4 := by
  induction es with
  | nil => rfl
  | cons q es ih => rw [flatQ_cons, List.length_append, ih, List.length_cons]; show 4 + _ = _; omega
theorem flatQ_drop (es : List Q4) (i : Nat) : flatQ (es.drop i) = (flatQ es).drop (i * 4) := by
  by_cases h : i ≤ es.length
  · have e := flatQ_app (es.take i) (es.drop i)
    rw [List.take_append_drop] at e
    have hl : (flatQ (es.take i)).length = i * 4 := by rw [flatQ_len, List.length_take, Nat.min_eq_left h]
    rw [e, ← hl, List.drop_left]
  · rw [List.drop_of_length_le (by omega), List.drop_of_length_le (by rw [flatQ_len]; omega)]; rfl
theorem flatQ_take (es : List Q4) (i : Nat) : flatQ (es.take i) = (flatQ es).take (i * 4) := by
  by_cases h : i ≤ es.length
  · have e := flatQ_app (es.take i) (es.drop i)
    rw [List.take_append_drop] at e
    have hl : (flatQ (es.take i)).length = i * 4 := by rw [flatQ_len, List.length_take, Nat.min_eq_left h]
    rw [e, ← hl, List.take_left]
  · rw [List.take_of_length_le (by omega), List.take_of_length_le (by rw [flatQ_len]; omega)]
theorem flatQ_at (es : List Q4) (i : Nat) (h : i < es.length) : (flatQ es)[i * 4]? = some es[i].a ∧ (flatQ es)[i * 4 + 1]? = some es[i].b ∧ (flatQ es)[i * 4 + 2]? = some es[i].c ∧ (flatQ es)[i * 4 + 3]? = some es[i].d := by
  have e : flatQ (es.drop i) = es[i].cells ++ flatQ (es.drop (i + 1)) := by rw [← flatQ_cons, List.getElem_cons_drop]
  have k : ∀ j, j < 4 → (flatQ es)[i * 4 + j]? = (es[i].cells)[j]? := fun j hj => by
    rw [← List.getElem?_drop, ← flatQ_drop, e, List.getElem?_append_left (by exact hj)]
  exact ⟨k 0 (by decide), k 1 (by decide), k 2 (by decide), k 3 (by decide)⟩
theorem flatQ_one {es : List Q4} (h : ∀ q ∈ es, q.one) : ∀ u ∈ flatQ es, u.oneCell' = true := fun u hu => by
  obtain ⟨q, hq, hu⟩ := List.mem_flatMap.1 hu
  obtain ⟨h1, h2, h3, h4⟩ := h q hq
  simp only [Q4.cells, List.mem_cons, List.not_mem_nil, or_false] at hu
  rcases hu with rfl | rfl | rfl | rfl <;> assumption
/-- a list of cells as elements -/
theorem q4_of : ∀ (k : Nat) (l : List Value), l.length = k * 4 → ∃ es : List Q4, es.length = k ∧ l = flatQ es
  | 0, l, h => ⟨[], rfl, List.eq_nil_of_length_eq_zero (by omega)⟩
  | k + 1, a :: b :: c :: d :: l, h => by
    obtain ⟨es, h1, h2⟩ := q4_of k l (by simp only [List.length_cons] at h; omega)
    exact ⟨⟨a, b, c, d⟩ :: es, by simp [h1], by rw [flatQ_cons, h2]; rfl⟩
  | k + 1, [], h => by simp at h
  | k + 1, [_], h => by simp at h; omega
  | k + 1, [_, _], h => by simp at h; omega
  | k + 1, [_, _, _], h => by simp at h; omega
theorem flatQ_inj : ∀ {xs ys : List Q4}, flatQ xs = flatQ ys → xs = ys
  | [], [], _ => rfl
  | [], y :: ys, h => by have := congrArg List.length h; rw [flatQ_len, flatQ_len] at this; simp at this
  | x :: xs, [], h => by have := congrArg List.length h; rw [flatQ_len, flatQ_len] at this; simp at this
  | ⟨a, b, c, d⟩ :: xs, ⟨a', b', c', d'⟩ :: ys, h => by
    rw [flatQ_cons, flatQ_cons] at h
    simp only [Q4.cells, List.cons_append, List.nil_append, List.cons.injEq] at h
    obtain ⟨rfl, rfl, rfl, rfl, h⟩ := h
    rw [flatQ_inj h]

/-- block g holds the elements, none frozen -/
def RowQ (w : World) (g : Nat) (T : TypeId) (row : List Q4) : Prop := w.heap[g]? = some (.cells (flatQ row).toArray T (0, 0))
section
variable {w w2 : World} {g : Nat} {T : TypeId} {row : List Q4}
theorem RowQ.lt (h : RowQ w g T row) : g < w.heap.size := block_lt h
theorem RowQ.keep (h : RowQ w g T row) (k : w2.heap[g]? = w.heap[g]?) : RowQ w2 g T row := Eq.trans k h
theorem RowQ.ext (h : RowQ w g T row) (x : Ext w w2) : RowQ w2 g T row := h.keep (x.block h.lt)
theorem RowQ.cells (h : RowQ w g T row) {i : Nat} (hi : i < row.length) : w.cell? ⟨g, i * 4, none⟩ = some row[i].a ∧ w.cell? ⟨g, i * 4 + 1, none⟩ = some row[i].b ∧ w.cell? ⟨g, i * 4 + 2, none⟩ = some row[i].c ∧ w.cell? ⟨g, i * 4 + 3, none⟩ = some row[i].d := by
  have k := flatQ_at row i hi
  simp only [cell_of_row w g _ _ T (0, 0) h, List.getElem?_toArray]
  exact k
theorem RowQ.frozen (h : RowQ w g T row) (i : Nat) : w.frozen? ⟨g, i, none⟩ = false := frozen_of_row w g i _ T h
theorem RowQ.setCells (h : RowQ w g T row) {i : Nat} (vs : List Q4) (hi : i + vs.length ≤ row.length) : RowQ (w.setCells g (i * 4) (flatQ vs)) g T (row.take i ++ (vs ++ row.drop (i + vs.length))) := by
  have := heap_setCells (g := g) (e := T) (flatQ vs) (i * 4) w _ h (by rw [flatQ_len, List.size_toArray, flatQ_len]; omega)
  unfold RowQ
  rw [this, flatQ_app, flatQ_app, flatQ_take, flatQ_drop, flatQ_len, Nat.add_mul]
/-- one element stored, cell by cell -/
theorem RowQ.store (h : RowQ w g T row) {i : Nat} (hi : i < row.length) (q : Q4) :
    RowQ ((((w.setCell ⟨g, i * 4, none⟩ q.a).setCell ⟨g, i * 4 + 1, none⟩ q.b).setCell ⟨g, i * 4 + 2, none⟩ q.c).setCell ⟨g, i * 4 + 3, none⟩ q.d) g T (row.set i q) := by
  have := h.setCells (i := i) [q] (by simp; omega)
  rw [List.set_eq_take_append_cons_drop, if_pos hi]
  exact this
end
/-- all old blocks but g stand -/
def Kp (g : Nat) (w w2 : World) : Prop := w.heap.size ≤ w2.heap.size ∧ ∀ b, b < w.heap.size → b ≠ g → w2.heap[b]? = w.heap[b]?
theorem Kp.refl (g : Nat) (w : World) : Kp g w w := ⟨Nat.le_refl _, fun _ _ _ => rfl⟩
theorem Kp.trans {g : Nat} {a b c : World} (h : Kp g a b) (k : Kp g b c) : Kp g a c := ⟨Nat.le_trans h.1 k.1, fun i hi hg => (k.2 i (Nat.lt_of_lt_of_le hi h.1) hg).trans (h.2 i hi hg)⟩
theorem Ext.kp {g : Nat} {a b : World} (h : Ext a b) : Kp g a b := ⟨h.size, fun _ hi _ => h.block hi⟩
theorem Kp.setCells (g o : Nat) (vs : List Value) (w : World) : Kp g w (w.setCells g o vs) := ⟨by rw [setCells_size]; exact Nat.le_refl _, fun _ _ hb => setCells_keep hb vs o w⟩
theorem Kp.store4 (g o : Nat) (a b c d : Value) (w : World) : Kp g w ((((w.setCell ⟨g, o, none⟩ a).setCell ⟨g, o + 1, none⟩ b).setCell ⟨g, o + 2, none⟩ c).setCell ⟨g, o + 3, none⟩ d) := Kp.setCells g o [a, b, c, d] w
theorem Ext.store4 {w0 w : World} (h : Ext w0 w) {g : Nat} (hg : w0.heap.size ≤ g) (o : Nat) (a b c d : Value) : Ext w0 ((((w.setCell ⟨g, o, none⟩ a).setCell ⟨g, o + 1, none⟩ b).setCell ⟨g, o + 2, none⟩ c).setCell ⟨g, o + 3, none⟩ d) := Ext.setCells hg [a, b, c, d] o h
/-- a row that the run owns, by its elements -/
theorem ownsRow_q {w : World} {base n : Nat} {T : TypeId} {v : Value} {cs : List Value} (h : w.ownsRow base T 4 v n cs) :
    (v = .slice none 0 0 ∧ n = 0 ∧ cs = []) ∨ ∃ g row, v = .slice (some ⟨g, 0, none⟩) n row.length ∧ base ≤ g ∧ RowQ w g T row ∧ n ≤ row.length ∧ row.length ≤ maxLen ∧ cs = flatQ (row.take n) := by
  rcases h.2 with ⟨rfl, rfl⟩ | ⟨g, cap, cur, rfl, hb, hh, hnc, hcm, hcs, htk⟩
  · exact .inl ⟨rfl, rfl, List.eq_nil_of_length_eq_zero (by have := h.1; omega)⟩
  · obtain ⟨row, h1, h2⟩ := q4_of cap cur.toList (by rw [Array.length_toList, hcs])
    subst h1
    refine .inr ⟨g, row, rfl, hb, ?_, hnc, hcm, by rw [← htk, h2, flatQ_take]⟩
    unfold RowQ
    rw [← h2]; simpa using hh
theorem ownsRow_of_q {w : World} {base g n : Nat} {T : TypeId} {row : List Q4} (hb : base ≤ g) (h : RowQ w g T row) (hn : n ≤ row.length) (hm : row.length ≤ maxLen) : w.ownsRow base T 4 (.slice (some ⟨g, 0, none⟩) n row.length) n (flatQ (row.take n)) := by
  refine ⟨by rw [flatQ_len, List.length_take, Nat.min_eq_left hn], .inr ⟨g, _, _, rfl, hb, h, hn, hm, by rw [List.size_toArray, flatQ_len], by rw [flatQ_take]⟩⟩
end Go.Proofs.Ytmembjjgkideeaa

namespace Go.Proofs.Ytmembjjgkideeaa
open Go.RowKit
end Go.Proofs.Ytmembjjgkideeaa

namespace Go.Proofs.Ytmembjjgkideeaa
open Go.RowKit

theorem setCell_heap {w w2 : World} (h : w.heap = w2.heap) (p : Addr) (v : Value) : (w.setCell p v).heap = (w2.setCell p v).heap := by
  unfold World.setCell
  simp only [h]
theorem setCells_heap {g : Nat} : ∀ (vs : List Value) (o : Nat) {w w2 : World}, w.heap = w2.heap → (w.setCells g o vs).heap = (w2.setCells g o vs).heap
  | [], _, _, _, h => h
  | v :: vs, o, _, _, h => by rw [World.setCells, World.setCells]; exact setCells_heap vs (o + 1) (setCell_heap h _ v)
theorem run_copy_many {P : Program} (w : World) (dT sT ty elem : TypeId) (sz m b o dLen dCap : Nat) (a : Addr) (sLen sCap : Nat) (cs : List Value)
    (hu : P.underlying dT = some (.slice elem)) (hs : (P.info? elem).map (·.size) = some sz) (hm : m = Nat.min sLen dLen) (hn : cs.length = m * sz)
    (hsrc : ∀ j v, cs[j]? = some v → w.cell? (a.add j) = some v) (hc : ∀ j, j < cs.length → (w.cell? ⟨b, o + j, none⟩).isSome = true) (hf : ∀ j, j < cs.length → w.frozen? ⟨b, o + j, none⟩ = false) (h1 : ∀ v ∈ cs, v.oneCell' = true) :
    (Builtin.copy_ #[dT, sT] ty #[.slice (some ⟨b, o, none⟩) dLen dCap, .slice (some a) sLen sCap]).run P w = .ok (goInt m) (w.setCells b o cs) := by
  have hl := run_loadCells_list (P := P) w a cs hsrc
  have hst := run_storeCells_cells (P := P) b o cs 0 w (by simpa using hc) (by simpa using hf) h1
  cases hq : P.info? elem with
  | none => simp [hq] at hs
  | some i =>
    have hi : i.size = sz := by simpa [hq] using hs
    subst hm
    rw [hn] at hl
    simp [Builtin.copy_, run_underlying hu, Builtin.lenOf, Builtin.firstCells, sizeOf, typeInfo, hq, hi, hl, hst]
theorem wp_copy_runI {P : Program} (w : World) {o : Oper} {a : Act} {K : Act → World → Prop} {Q : Exit → Act → World → Prop} (d s : Operand) (t t' : TypeId)
    (ho : o.op = .call { callee := .builtin .copy, args := #[d, s], argTypes := #[t, t'] }) (v u : Value) (hd : a.eval d = v) (hs : a.eval s = u) {v' : Value} {w' : World}
    (hr : (Builtin.copy_ #[t, t'] o.type #[v, u]).run P w = .ok v' w') (h : K (a.put o.dst v') w') : o.wp P a w K Q := by
  unfold Oper.wp execOp
  simp only [ho, resolve, invoke, builtin, Sem.run_bind, Sem.run_pure, Result.andThen_ok, List.map_toArray, List.map_cons, List.map_nil, hd, hs, hr]
  exact h
theorem wpList_copy_runI {P : Program} (w : World) {ops : Array Oper} {rest : List Oper} {o : Oper} {a : Act} {Q : Exit → Act → World → Prop} (hgd : o.guard = none) (d s : Operand) (t t' : TypeId)
    (ho : o.op = .call { callee := .builtin .copy, args := #[d, s], argTypes := #[t, t'] }) (v u : Value) (hd : a.eval d = v) (hs : a.eval s = u) {v' : Value} {w' : World}
    (hr : (Builtin.copy_ #[t, t'] o.type #[v, u]).run P w = .ok v' w') (h : wpList P ops Q rest (a.put o.dst v') w') : wpList P ops Q (o :: rest) a w :=
  wpList_plain hgd fun _ hK => wp_copy_runI w d s t t' ho v u hd hs hr (hK _ _ h)
theorem step_copy_runI {P : Program} {ops : Array Oper} {o : Oper} {a : Act} {w : World} {K : Act → World → Prop} {Q : Exit → Act → World → Prop} {E : Prop}
    (hg : o.guard = none) (d x : Operand) (dT sT : TypeId) (hop : o.op = Op.call { callee := Callee.builtin Builtin.copy, args := #[d, x], argTypes := #[dT, sT] })
    (v u : Value) (hd : a.eval d = v) (hx : a.eval x = u) {v' : Value} {w' : World} (hr : (Builtin.copy_ #[dT, sT] o.type #[v, u]).run P w = .ok v' w') (hK : K (a.put o.dst v') w') :
    if Region.wanted o (yielded ops a.tmps) = true then Oper.wp P o a w K Q else E := by
  have hw : Region.wanted o (yielded ops a.tmps) = true := by simp [Region.wanted, hg]
  rw [if_pos hw]
  exact wp_copy_runI w d x dT sT hop v u hd hx hr hK
end Go.Proofs.Ytmembjjgkideeaa

namespace Go.Proofs.Ytmembjjgkideeaa
open Go.RowKit

theorem ints_own (xs : List Int) (h : ∀ x ∈ xs, I64 x) (W : World) : OwnCells intO W (xs.map (Value.int .i64)) xs [] := by
  induction xs with
  | nil => exact .nil
  | cons x xs ih => exact ⟨[.int .i64 x], _, [], [], rfl, rfl, ⟨⟨rfl, h x (List.mem_cons_self ..)⟩, rfl⟩, ih fun y hy => h y (List.mem_cons_of_mem _ hy)⟩
theorem Sl.ints_some {w : World} {ad : Addr} {n cap : Nat} {xs : List Int} (h : Sl intR w (.slice (some ad) n cap) xs) : (∀ x ∈ xs, I64 x) ∧ ∀ j u, (xs.map (Value.int .i64))[j]? = some u → w.cell? (ad.add j) = some u := by
  refine ⟨fun x hx => ?_, fun j u hj => ?_⟩
  · obtain ⟨i, hi, rfl⟩ := List.getElem_of_mem hx
    obtain ⟨_, _, _, h1, _⟩ := h.int hi
    exact h1
  · rw [List.getElem?_map] at hj
    obtain ⟨x, hx, rfl⟩ := Option.map_eq_some_iff.1 hj
    obtain ⟨hi, hx⟩ := List.getElem?_eq_some_iff.1 hx
    obtain ⟨b, off, e, h1, hc⟩ := h.int hi
    injection e with e
    subst e
    rw [add_eq, hc, hx]
/-- 'append(s, t...)': the ints of t, which may be the caller's -/
theorem wpList_appn {P : Program} {ops : Array Oper} {rest : List Oper} {o : Oper} {a : Act} {w : World} {Q : Exit → Act → World → Prop} {t e : TypeId} (E : ElemT P t e intO.n 8)
    (hgd : o.guard = none) (s x : Operand) (ho : o.op = .call { callee := .builtin .append, args := #[s, x], argTypes := #[t, t] })
    {base : Nat} {v : Value} {xs : List Int} (hb : Bld intO w base e v xs []) (hs : a.eval s = v) {A : Option Addr} {n k : Nat} (hx : a.eval x = .slice A n k) {ys : List Int} (hy : Sl intR w (.slice A n k) ys)
    (hbytes : xs.length + ys.length ≤ 1099511627776) (hbase : base ≤ w.heap.size)
    (h : ∀ v' w', Bld intO w' base e v' (xs ++ ys) [] → (∀ w0 : World, w0.heap.size ≤ base → Ext w0 w → Ext w0 w') → wpList P ops Q rest (a.put o.dst v') w') :
    wpList P ops Q (o :: rest) a w := by
  obtain ⟨ht, i, z, hi, hz, hsize, hby2, hzs⟩ := E
  have hn : n = ys.length := hy.cap_.1
  cases A with
  | none =>
    have h0 : ys = [] := by
      cases ys with
      | nil => rfl
      | cons y ys =>
        obtain ⟨_, _, _, e, _⟩ := hy.at_ (show 0 < (y :: ys).length by simp)
        cases e
    subst h0
    have hn0 : n = 0 := hn
    subst hn0
    obtain ⟨cs, b1, b2⟩ := hb
    refine wpList_plain hgd fun K hK => ?_
    have hr : (Builtin.append_ #[t, t] o.type #[v, .slice none 0 k]).run P w = .ok v w := by
      rcases b1.2 with ⟨rfl, _⟩ | ⟨g, cap, cur, rfl, _, _, hnc, _⟩
      · simp [Builtin.append_, run_underlying ht, sizeOf, typeInfo, hi, Builtin.lenOf, Builtin.firstCells]
      · simp [Builtin.append_, run_underlying ht, sizeOf, typeInfo, hi, Builtin.lenOf, Builtin.firstCells, hnc, storeCells]
    unfold Oper.wp execOp
    simp only [ho, resolve, invoke, builtin, Sem.run_bind, Sem.run_pure, Result.andThen_ok, List.map_toArray, List.map_cons, List.map_nil, hs, hx, hr]
    exact hK _ _ (h v w (by rw [List.append_nil]; exact ⟨cs, b1, b2⟩) fun _ _ hx => hx)
  | some ad =>
    obtain ⟨hI, hc⟩ := hy.ints_some
    have hl := hb.lt
    obtain ⟨cs, b1, b2, b3, b4, b5⟩ := hb
    refine wpList_append_own_at w hgd s x t ho base e i z intO.n 8 ht hi hz hsize hby2 hzs (by decide) v xs.length cs hs b1 ad n k (ys.map (Value.int .i64)) hx (by rw [List.length_map, hn]; exact (Nat.mul_one _).symm) hc (fun u hu => by
      obtain ⟨y, _, rfl⟩ := List.mem_map.1 hu; rfl) (by unfold maxLen; omega) (by omega) hbase ?_
    intro v' w' hown hgr _ hat
    refine h v' w' ⟨cs ++ ys.map (Value.int .i64), by rw [List.length_append, ← hn]; exact hown, ?_, fun _ _ hm => (by cases hm), List.nodup_nil, fun _ hm => by cases hm⟩ fun w0 h0 hx0 => hx0.grown hgr fun g hg => Nat.le_trans h0 (hl.2 g hg).2
    have := OwnCells.append (b2.keep (w2 := w') fun b hb => by cases hb) (ints_own ys hI w')
    simpa using this
end Go.Proofs.Ytmembjjgkideeaa

namespace Go.Proofs.Ytmembjjgkideeaa
open Go.RowKit

/-- elements known by their cells: p -/
def atP {α : Type} (R : Rep α) (p : List Value → α → Prop) : RepO α :=
  { n := R.n
    rd := fun _ cs x => p cs x ∧ cs.length = R.n
    len := fun h => h.2
    mono := fun _ h => h
    own := fun _ cs x F => (p cs x ∧ cs.length = R.n) ∧ F = []
    own_rd := fun h => h.1
    own_lt := fun h b hb => by rw [h.2] at hb; cases hb
    own_keep := fun _ h => h }
theorem Sl.of_atP {α : Type} {R : Rep α} {p : List Value → α → Prop} {w : World} {v : Value} {xs : List α} (h : Sl (atP R p).toRep w v xs) (e : ∀ cs x, p cs x → R.rd w cs x) : Sl R w v xs := by
  obtain ⟨A, cap, rfl, hm, hi⟩ := h
  refine ⟨A, cap, rfl, hm, fun i h => ?_⟩
  obtain ⟨b, off, cs, rfl, hr, hc⟩ := hi i h
  exact ⟨b, off, cs, rfl, e _ _ hr.1, hc⟩
theorem OwnCells.toP {α : Type} {R : Rep α} {p : List Value → α → Prop} {w0 w w2 : World} (hp : ∀ cs x, R.rd w0 cs x → p cs x) : ∀ {xs : List α} {cs : List Value} {F : List Nat}, OwnCells (atO R w0) w cs xs F → OwnCells (atP R p) w2 cs xs F
  | [], _, _, h => h
  | _ :: _, _, _, ⟨c, d, F1, F2, h1, h2, h3, h4⟩ => ⟨c, d, F1, F2, h1, h2, ⟨⟨hp _ _ h3.1, R.len h3.1⟩, h3.2⟩, OwnCells.toP hp h4⟩
theorem OwnCells.pMono {α : Type} {R : Rep α} {p q : List Value → α → Prop} {w w2 : World} (hp : ∀ cs x, p cs x → q cs x) : ∀ {xs : List α} {cs : List Value} {F : List Nat}, OwnCells (atP R p) w cs xs F → OwnCells (atP R q) w2 cs xs F
  | [], _, _, h => h
  | _ :: _, _, _, ⟨c, d, F1, F2, h1, h2, h3, h4⟩ => ⟨c, d, F1, F2, h1, h2, ⟨⟨hp _ _ h3.1.1, h3.1.2⟩, h3.2⟩, OwnCells.pMono hp h4⟩
theorem Bld.moveP {α : Type} {R : Rep α} {p q : List Value → α → Prop} {w w2 : World} {base : Nat} {e : TypeId} {v : Value} {xs : List α} (h : Bld (atP R p) w base e v xs []) (hk : ∀ b, v.ownBlock = some b → w2.heap[b]? = w.heap[b]?) (hp : ∀ cs x, p cs x → q cs x) : Bld (atP R q) w2 base e v xs [] := by
  obtain ⟨cs, h1, h2, h3, h4, h5⟩ := h
  refine ⟨cs, ⟨h1.1, ?_⟩, h2.pMono hp, h3, h4, h5⟩
  rcases h1.2 with h | ⟨g', cap, cur, rfl, hb, hh, hr⟩
  · exact .inl h
  · exact .inr ⟨g', cap, cur, rfl, hb, (hk g' rfl).trans hh, hr⟩
theorem Bld.empP {α : Type} {R : RepO α} {W : World} {base g : Nat} {e : TypeId} (hb : base ≤ g) (h : W.heap[g]? = some (.cells #[] e (0, 0))) : Bld R W base e (.slice (some ⟨g, 0, none⟩) 0 0) ([] : List α) [] :=
  ⟨[], ⟨by simp, .inr ⟨g, 0, #[], rfl, hb, h, Nat.le_refl _, Nat.zero_le _, by simp, by simp⟩⟩, .nil, fun _ _ h => (by cases h), List.nodup_nil, fun _ h => by cases h⟩
/-- what is known of the memory behind an append -/
structure Aft (w w' : World) (v v' : Value) : Prop where
  keep : ∀ b, b < w.heap.size → v.ownBlock ≠ some b → w'.heap[b]? = w.heap[b]?
  size : w.heap.size ≤ w'.heap.size
  own : ∀ b, v'.ownBlock = some b → v.ownBlock = some b ∨ w.heap.size ≤ b
/-- an append of a slice's cells -/
theorem step_appP {P : Program} {α : Type} {R : Rep α} {p : List Value → α → Prop} {ops : Array Oper} {o : Oper} {a : Act} {w : World} {K : Act → World → Prop} {Q : Exit → Act → World → Prop} {Z : Prop} {t e : TypeId} {bytes : Nat} (hsz : 0 < R.n) (E : ElemT P t e R.n bytes) (hby : bytes ≤ 128)
    (hgd : o.guard = none) (s x : Operand) (ho : o.op = .call { callee := .builtin .append, args := #[s, x], argTypes := #[t, t] })
    {base : Nat} {v : Value} {xs ys : List α} (hb : Bld (atP R p) w base e v xs []) (hs : a.eval s = v) {A : Option Addr} {n k : Nat} (hx : a.eval x = .slice A n k) {news : List Value} (hnews : OwnCells (atP R p) w news ys []) (hn : n = ys.length)
    (hc : 0 < n → ∃ ad, A = some ad ∧ ∀ j u, news[j]? = some u → w.cell? (ad.add j) = some u) (h1 : ∀ u ∈ news, u.oneCell' = true)
    (hbytes : xs.length + n ≤ 1099511627776) (hbase : base ≤ w.heap.size) {w0 : World} (h0 : w0.heap.size ≤ base) (hx0 : Ext w0 w)
    (h : ∀ v' w', Bld (atP R p) w' base e v' (xs ++ ys) [] → Ext w0 w' → Aft w w' v v' → K (a.put o.dst v') w') :
    if Region.wanted o (yielded ops a.tmps) = true then Oper.wp P o a w K Q else Z := by
  have hw : Region.wanted o (yielded ops a.tmps) = true := by simp [Region.wanted, hgd]
  rw [if_pos hw]
  obtain ⟨ht, i, z, hi, hz, hsize, hby2, hzs⟩ := E
  have hlb := hb.lt
  have hl : news.length = n * R.n := by rw [hn]; exact hnews.length
  obtain ⟨cs, b1, b2, b3, b4, b5⟩ := hb
  by_cases hm : 0 < n
  · obtain ⟨ad, rfl, hcc⟩ := hc hm
    refine wp_append_lies w s x t ho base e i z R.n bytes ht hi hz hsize hby2 hzs hsz v xs.length cs hs b1 ad n k news hx hl hcc h1 hm (by unfold maxLen; omega)
      (Nat.le_trans (Nat.mul_le_mul (show xs.length + n ≤ 1099511627776 by omega) hby) (by decide)) hbase w.heap.size rfl ?_
    intro g' cap w' hown hgr hat _
    refine h _ _ ⟨cs ++ news, by rw [List.length_append, ← hn]; exact hown, ?_, fun _ _ hm => (by cases hm), List.nodup_nil, fun _ hm => by cases hm⟩ (hx0.grown hgr fun g hg => Nat.le_trans h0 (hlb.2 g hg).2) ⟨fun b hb2 hne => hgr.block b hb2 (fun e => hne e.symm), hgr.size, fun b hb => ?_⟩
    · have := OwnCells.append (b2.keep (w2 := w') fun b hb => by cases hb) (hnews.keep (w2 := w') fun b hb => by cases hb)
      simpa using this
    · injection hb with hb
      subst hb
      rcases hat with hat | hat
      · exact .inl hat
      · exact .inr (by rw [hat]; exact Nat.le_refl _)
  · have hn0 : n = 0 := by omega
    subst hn0
    have hys : ys = [] := List.eq_nil_of_length_eq_zero hn.symm
    subst hys
    have hr : (Builtin.append_ #[t, t] o.type #[v, .slice A 0 k]).run P w = .ok v w := by
      rcases b1.2 with ⟨rfl, _⟩ | ⟨g, cap, cur, rfl, _, _, hnc, _⟩
      · cases A <;> simp [Builtin.append_, run_underlying ht, sizeOf, typeInfo, hi, Builtin.lenOf, Builtin.firstCells, storeCells, loadCells, loadCellsFrom]
      · cases A <;> simp [Builtin.append_, run_underlying ht, sizeOf, typeInfo, hi, Builtin.lenOf, Builtin.firstCells, hnc, storeCells, loadCells, loadCellsFrom]
    unfold Oper.wp execOp
    simp only [ho, resolve, invoke, builtin, Sem.run_bind, Sem.run_pure, Result.andThen_ok, List.map_toArray, List.map_cons, List.map_nil, hs, hx, hr]
    exact h v w ⟨cs, by rw [List.append_nil]; exact b1, by rw [List.append_nil]; exact b2, b3, b4, b5⟩ hx0 ⟨fun _ _ _ => rfl, Nat.le_refl _, fun _ hb => .inl hb⟩
/-- of a slice that reads in w1 -/
theorem step_appPS {P : Program} {α : Type} {R : Rep α} {p : List Value → α → Prop} {ops : Array Oper} {o : Oper} {a : Act} {w : World} {K : Act → World → Prop} {Q : Exit → Act → World → Prop} {Z : Prop} {t e : TypeId} {bytes : Nat} (hsz : 0 < R.n) (E : ElemT P t e R.n bytes) (hby : bytes ≤ 128)
    (hone : ∀ (w : World) cs x, R.rd w cs x → ∀ u ∈ cs, u.oneCell' = true)
    (hgd : o.guard = none) (s x : Operand) (ho : o.op = .call { callee := .builtin .append, args := #[s, x], argTypes := #[t, t] })
    {base : Nat} {v : Value} {xs ys : List α} (hb : Bld (atP R p) w base e v xs []) (hs : a.eval s = v) {A : Option Addr} {n k : Nat} (hx : a.eval x = .slice A n k) {w1 : World} (hy : Sl R w1 (.slice A n k) ys) (hxw : Ext w1 w) (hp : ∀ cs x, R.rd w1 cs x → p cs x)
    (hbytes : xs.length + n ≤ 1099511627776) (hbase : base ≤ w.heap.size) {w0 : World} (h0 : w0.heap.size ≤ base) (hx0 : Ext w0 w)
    (h : ∀ v' w', Bld (atP R p) w' base e v' (xs ++ ys) [] → Ext w0 w' → Aft w w' v v' → K (a.put o.dst v') w') :
    if Region.wanted o (yielded ops a.tmps) = true then Oper.wp P o a w K Q else Z := by
  obtain ⟨news, k1, k2, k3⟩ := hy.cells_
  have one : ∀ {xs : List α} {cs : List Value} {F : List Nat}, OwnCells (atO R w1) w1 cs xs F → ∀ u ∈ cs, u.oneCell' = true := by
    intro xs
    induction xs with
    | nil => intro cs F h u hu; rw [h.1] at hu; cases hu
    | cons x xs ih =>
      rintro cs F ⟨c, d, F1, F2, rfl, _, ⟨h2, _⟩, h4⟩ u hu
      rcases List.mem_append.1 hu with hu | hu
      · exact hone w1 c x h2 u hu
      · exact ih h4 u hu
  exact step_appP hsz E hby hgd s x ho hb hs hx (k1.toP hp) hy.cap_.1 (fun hp => by
    obtain ⟨ad, e1, e2⟩ := k3 hp
    exact ⟨ad, e1, fun j u hu => e2 w hxw j u hu⟩) (one k1) hbytes hbase h0 hx0 h
/-- of one element, laid in a block -/
theorem step_appP1 {P : Program} {α : Type} {R : Rep α} {p : List Value → α → Prop} {ops : Array Oper} {o : Oper} {a : Act} {w : World} {K : Act → World → Prop} {Q : Exit → Act → World → Prop} {Z : Prop} {t e : TypeId} {bytes : Nat} (hsz : 0 < R.n) (E : ElemT P t e R.n bytes) (hby : bytes ≤ 128)
    (hgd : o.guard = none) (s x : Operand) (ho : o.op = .call { callee := .builtin .append, args := #[s, x], argTypes := #[t, t] })
    {base : Nat} {v : Value} {xs : List α} (hb : Bld (atP R p) w base e v xs []) (hs : a.eval s = v) {c : Array Value} {T : TypeId} {fr : Nat × Nat} (g k : Nat) (hx : a.eval x = .slice (some ⟨g, 0, none⟩) 1 k) (hg : w.heap[g]? = some (.cells c T fr))
    (h1 : ∀ u ∈ c.toList, u.oneCell' = true) {y : α} (hy : p c.toList y) (hyn : c.toList.length = R.n)
    (hbytes : xs.length + 1 ≤ 1099511627776) (hbase : base ≤ w.heap.size) {w0 : World} (h0 : w0.heap.size ≤ base) (hx0 : Ext w0 w)
    (h : ∀ v' w', Bld (atP R p) w' base e v' (xs ++ [y]) [] → Ext w0 w' → Aft w w' v v' → K (a.put o.dst v') w') :
    if Region.wanted o (yielded ops a.tmps) = true then Oper.wp P o a w K Q else Z :=
  step_appP hsz E hby hgd s x ho hb hs hx (news := c.toList) (ys := [y]) (OwnCells.one (R := atP R p) ⟨⟨hy, hyn⟩, rfl⟩) rfl (fun _ => ⟨_, rfl, World.news_of_block hg⟩) h1 hbytes hbase h0 hx0 h
theorem heap_new {w : World} {g : Nat} {c : Array Value} {e : TypeId} (h : g = w.heap.size) : (w.alloc (.cells c e)).heap[g]? = some (.cells c e (0, 0)) := by
  subst h; exact heap_alloc_new w _
theorem heap_old {w : World} {g : Nat} {o : Obj} {r : Option Obj} (h : g < w.heap.size) (k : w.heap[g]? = r) : (w.alloc o).heap[g]? = r :=
  (((Ext.refl w).alloc o).block h).trans k
theorem heap_drew {w : World} {g : Nat} {r : Option Obj} (h : w.heap[g]? = r) : w.drew.heap[g]? = r := h
theorem own_ne {g b : Nat} (h : g ≠ b) : (Value.slice (some ⟨g, 0, none⟩) 0 0).ownBlock ≠ some b := fun e => by
  injection e with e
  exact h e
theorem Aft.own0 {w w' : World} {g n k : Nat} {v' : Value} (h : Aft w w' (.slice (some ⟨g, 0, none⟩) n k) v') : ∀ b, v'.ownBlock = some b → g = b ∨ w.heap.size ≤ b := fun b hb => by
  rcases h.own b hb with e | e
  · injection e with e
    exact .inl e
  · exact .inr e
/-- 's[k:]' -/
theorem Sl.tail1 {α : Type} {R : Rep α} (hR : R.n = 1) {w : World} {b off n cap : Nat} {xs : List α} (h : Sl R w (.slice (some ⟨b, off, none⟩) n cap) xs) (k : Nat) (hk : k ≤ xs.length) :
    ∃ A2 : Option Addr, (if cap = k then (some ⟨b, off, none⟩ : Option Addr) else some ⟨b, off + k, none⟩) = A2 ∧ Hid (Sl R w (.slice A2 (xs.length - k) (cap - k)) (xs.drop k)) := by
  have hn := h.cap_
  by_cases hc : cap = k
  · refine ⟨_, rfl, ?_⟩
    rw [if_pos hc, show xs.drop k = [] from List.drop_of_length_le (by omega), show xs.length - k = 0 by omega]
    exact ⟨_, _, rfl, ⟨Nat.zero_le _, by unfold maxLen; omega⟩, fun i hi => absurd hi (Nat.not_lt_zero _)⟩
  · refine ⟨_, rfl, ?_⟩
    rw [if_neg hc]
    obtain ⟨A, cap', he, hm, hi⟩ := h
    injection he with e1 e2 e3
    subst e1; subst e2; subst e3
    refine ⟨_, _, by rw [List.length_drop], ⟨by rw [List.length_drop]; omega, by omega⟩, fun i hlt => ?_⟩
    rw [List.length_drop] at hlt
    obtain ⟨b2, off2, cs, e, hr, hc2⟩ := hi (k + i) (by omega)
    injection e with e
    injection e with e4 e5 _
    subst e4; subst e5
    refine ⟨b, off + k, cs, rfl, by rw [List.getElem_drop]; exact hr, fun j hj => ?_⟩
    rw [← hc2 j hj, hR, show off + k + i * 1 + j = off + (k + i) * 1 + j by omega]
end Go.Proofs.Ytmembjjgkideeaa

namespace Go.Proofs.Ytmembjjgkideeaa
open Go.RowKit

theorem idxF_ltq {α : Type} (p : α → Bool) : ∀ (xs : List α) (k : Nat), (idxF p k xs = -1 ∧ ∀ x ∈ xs, p x = false) ∨ ∃ j, j < xs.length ∧ idxF p k xs = ((k + j : Nat) : Int) ∧ ∃ h : j < xs.length, p xs[j] = true
  | [], k => .inl ⟨rfl, fun _ h => by cases h⟩
  | x :: xs, k => by
    by_cases hp : p x = true
    · exact .inr ⟨0, by simp, by simp [idxF, hp], by simp, by simpa using hp⟩
    · have hp' : p x = false := by simpa using hp
      rcases idxF_ltq p xs (k + 1) with ⟨e, h⟩ | ⟨j, hj, e, hj2, h⟩
      · refine .inl ⟨by simp [idxF, hp', e], fun y hy => ?_⟩
        rcases List.mem_cons.1 hy with rfl | hy
        · exact hp'
        · exact h y hy
      · exact .inr ⟨j + 1, by simpa using hj, by simp only [idxF, hp', Bool.false_eq_true, if_false, e]; omega, by simpa using hj, by simpa using h⟩
theorem idxF_first {α : Type} (p : α → Bool) : ∀ (xs : List α) (k j : Nat), idxF p k xs = ((k + j : Nat) : Int) → ∀ x ∈ xs.take j, p x = false
  | [], _, _, _ => fun _ h => by simp at h
  | x :: xs, k, j, e => by
    by_cases hp : p x = true
    · rw [idxF, if_pos hp] at e
      have : j = 0 := by omega
      subst this
      intro y hy; simp at hy
    · have hp' : p x = false := by simpa using hp
      rw [idxF, if_neg hp] at e
      cases j with
      | zero => intro y hy; simp at hy
      | succ j =>
        intro y hy
        rw [List.take_succ_cons] at hy
        rcases List.mem_cons.1 hy with rfl | hy
        · exact hp'
        · exact idxF_first p xs (k + 1) j (by rw [e]; congr 1; omega) y hy

def VerQ (q : Q4) : Prop := ∃ (a b : Int) (s : Bool) (t : Int), q = ⟨.int .i64 a, .int .i64 b, .bool s, .int .i64 t⟩
def RecQ (q : Q4) : Prop := ∃ (a b t : Int) (A : Option Addr) (m c : Nat), q = ⟨.int .i64 a, .int .i64 b, .int .i64 t, .slice A m c⟩
set_option maxHeartbeats 400000 in
theorem IndexFunc_qv (g n cap : Nat) (row : List Q4) (p : Q4 → Bool) (fn : FuncId) (cp : Array Value) (w : World) (hr : RowQ w g 32 row) (hn : n ≤ row.length) (hl : n ≤ 1048576)
    (hfn : ∀ (args : Array Value) (W : World), Sem.run Try.prog (callFunc fn args) W = .ok (.enter fn args) W)
    (hf : ∀ (W : World) (q : Q4), q ∈ row.take n → Kp g w W → Calls Try.prog fn (#[.agg #[q.a, q.b, q.c, q.d]] ++ cp) W fun e W2 => e = .returned (.bool (p q)) ∧ Ext W W2) :
    Calls Try.prog 69 #[.slice (some ⟨g, 0, none⟩) n cap, .func (.func fn) #[] cp] w fun e w2 => e = .returned (.int .i64 (idxF p 0 (row.take n))) ∧ Ext w w2 := by
  have htl : (row.take n).length = n := by rw [List.length_take]; omega
  have HTL := hid htl
  clear htl
  go_enter Try.func69, Try.ntmps69
  go_wp2
  go_loopw [8] (fun i wr => ∃ k : Nat, k ≤ n ∧ i = .int .i64 k ∧ (∀ x ∈ (row.take n).take k, p x = false) ∧ Ext w wr) (fun i _ => n - (intOf i).toNat)
  case atStart => exact ⟨0, Nat.zero_le _, rfl, by simp, Ext.refl _⟩
  case round =>
    obtain ⟨k, hk, rfl, hz, hx⟩ := hrel
    have HZ := hid hz
    clear hz
    by_cases hlt : k < n
    · have hkl : k < (row.take n).length := by rw [HTL.out]; exact hlt
      have hkr : k < row.length := by omega
      obtain ⟨c0, c1, c2, c3⟩ := (hr.ext hx).cells hkr
      have HQ := hid (show (row.take n)[k] = row[k] from List.getElem_take)
      go_wp2_with fail
      refine (hf wr row[k] (by rw [← HQ.out]; exact List.getElem_mem hkl) hx.kp).mono ?_
      rintro e w2 ⟨rfl, x2⟩
      by_cases hp : p row[k] = true
      · rw [hp]
        have HP := hid (show p ((row.take n)[k]) = true by rw [HQ.out]; exact hp)
        clear hp
        go_wp2
        go_ret
        exact ⟨ret_int (idxF_at p (row.take n) k hkl HZ.out HP.out).symm, hx.trans x2⟩
      · have hp' : p row[k] = false := by simpa using hp
        have HP := hid (show p ((row.take n)[k]) = false by rw [HQ.out]; exact hp')
        rw [hp']
        clear hp hp'
        go_wp2
        go_roundw
        case rel => exact ⟨k + 1, by omega, by go_num, take_snoc_all _ (row.take n) k hkl HZ.out HP.out, hx.trans x2⟩
        case measure => simp [intOf]; omega
    · go_wp2
      go_ret
      exact ⟨ret_int (idxF_all p (row.take n) k (by rw [HTL.out]; exact hlt) HZ.out).symm, hx⟩

end Go.Proofs.Ytmembjjgkideeaa

namespace Go.Proofs.Ytmembjjgkideeaa
open Go.RowKit

structure Constraint where
  a : Int
  b : Int
  same : Bool
def Constraint.cells (v : Constraint) : List Value := [.int .i64 v.a, .int .i64 v.b, .bool v.same]
def Constraint.val (v : Constraint) : Value := .agg #[.int .i64 v.a, .int .i64 v.b, .bool v.same]
def Constraint.ok (v : Constraint) : Prop := I64 v.a ∧ I64 v.b
def constraintR : Rep Constraint := ⟨3, fun _ cs v => cs = v.cells ∧ v.ok, fun h => by rw [h.1]; rfl, fun _ h => h⟩
def constraintO : RepO Constraint := flatO constraintR fun _ _ _ _ h => h
theorem Constraint.eta (x y : Constraint) : x = y ↔ x.a = y.a ∧ x.b = y.b ∧ x.same = y.same := by
  cases x; cases y; simp
theorem Sl.constraint {w : World} {A : Option Addr} {n cap : Nat} {xs : List Constraint} (h : Sl constraintR w (.slice A n cap) xs) {i : Nat} (hi : i < xs.length) :
    ∃ b off, A = some ⟨b, off, none⟩ ∧ xs[i].ok ∧ w.cell? ⟨b, off + i * 3, none⟩ = some (.int .i64 xs[i].a) ∧ w.cell? ⟨b, off + i * 3 + 1, none⟩ = some (.int .i64 xs[i].b) ∧ w.cell? ⟨b, off + i * 3 + 2, none⟩ = some (.bool xs[i].same) := by
  obtain ⟨b, off, cs, rfl, ⟨rfl, hok⟩, hc⟩ := h.at_ hi
  exact ⟨b, off, rfl, hok, by simpa [constraintR, Constraint.cells] using hc 0 (by simp [constraintR]), by simpa [constraintR, Constraint.cells] using hc 1 (by simp [constraintR]), by simpa [constraintR, Constraint.cells] using hc 2 (by simp [constraintR])⟩
theorem OwnSl.constraint_set0 {w : World} {g off n cap : Nat} {xs : List Constraint} {F : List Nat} (h : OwnSl constraintO w (.slice (some ⟨g, off, none⟩) n cap) xs F) (hN : F.Nodup) {i : Nat} (hi : i < xs.length) (u : Int) (hu : I64 u) :
    OwnSl constraintO (w.setCell ⟨g, off + i * 3, none⟩ (.int .i64 u)) (.slice (some ⟨g, off, none⟩) n cap) (xs.set i { xs[i] with a := u }) F ∧ w.cell? ⟨g, off + i * 3, none⟩ = some (.int .i64 xs[i].a) ∧ w.frozen? ⟨g, off + i * 3, none⟩ = false ∧ g ∈ F := by
  obtain ⟨g', off', cap', c, F1, e, hg, _, _, _, ⟨⟨rfl, hok⟩, rfl⟩, _, hc, hf, _, hst⟩ := h.elem hN hi
  injection e with e1 e2 e3
  injection e1 with e1
  injection e1 with e1 e4 _
  subst e1; subst e4
  have h1 : constraintO.n = 3 := rfl
  rw [h1] at hc hst
  refine ⟨?_, by have q := hc 0 (by omega); exact q, hf _, hg⟩
  exact hst 0 (.int .i64 u) { xs[i] with a := u } (by omega) ⟨⟨rfl, ⟨hu, hok.2⟩⟩, rfl⟩
theorem OwnSl.constraint_set1 {w : World} {g off n cap : Nat} {xs : List Constraint} {F : List Nat} (h : OwnSl constraintO w (.slice (some ⟨g, off, none⟩) n cap) xs F) (hN : F.Nodup) {i : Nat} (hi : i < xs.length) (u : Int) (hu : I64 u) :
    OwnSl constraintO (w.setCell ⟨g, off + i * 3 + 1, none⟩ (.int .i64 u)) (.slice (some ⟨g, off, none⟩) n cap) (xs.set i { xs[i] with b := u }) F ∧ w.cell? ⟨g, off + i * 3 + 1, none⟩ = some (.int .i64 xs[i].b) ∧ w.frozen? ⟨g, off + i * 3 + 1, none⟩ = false ∧ g ∈ F := by
  obtain ⟨g', off', cap', c, F1, e, hg, _, _, _, ⟨⟨rfl, hok⟩, rfl⟩, _, hc, hf, _, hst⟩ := h.elem hN hi
  injection e with e1 e2 e3
  injection e1 with e1
  injection e1 with e1 e4 _
  subst e1; subst e4
  have h1 : constraintO.n = 3 := rfl
  rw [h1] at hc hst
  refine ⟨?_, by have q := hc 1 (by omega); exact q, hf _, hg⟩
  exact hst 1 (.int .i64 u) { xs[i] with b := u } (by omega) ⟨⟨rfl, ⟨hok.1, hu⟩⟩, rfl⟩
theorem OwnSl.constraint_set2 {w : World} {g off n cap : Nat} {xs : List Constraint} {F : List Nat} (h : OwnSl constraintO w (.slice (some ⟨g, off, none⟩) n cap) xs F) (hN : F.Nodup) {i : Nat} (hi : i < xs.length) (u : Bool)  :
    OwnSl constraintO (w.setCell ⟨g, off + i * 3 + 2, none⟩ (.bool u)) (.slice (some ⟨g, off, none⟩) n cap) (xs.set i { xs[i] with same := u }) F ∧ w.cell? ⟨g, off + i * 3 + 2, none⟩ = some (.bool xs[i].same) ∧ w.frozen? ⟨g, off + i * 3 + 2, none⟩ = false ∧ g ∈ F := by
  obtain ⟨g', off', cap', c, F1, e, hg, _, _, _, ⟨⟨rfl, hok⟩, rfl⟩, _, hc, hf, _, hst⟩ := h.elem hN hi
  injection e with e1 e2 e3
  injection e1 with e1
  injection e1 with e1 e4 _
  subst e1; subst e4
  have h1 : constraintO.n = 3 := rfl
  rw [h1] at hc hst
  refine ⟨?_, by have q := hc 2 (by omega); exact q, hf _, hg⟩
  exact hst 2 (.bool u) { xs[i] with same := u } (by omega) ⟨⟨rfl, ⟨hok.1, hok.2⟩⟩, rfl⟩

def constraintMk : Mk Constraint := ⟨fun _ => 3, fun k _ y => y = ⟨k, k + 1, ((k + 2) % 3 == 0)⟩⟩
theorem constraintMk_sum (xs : List Constraint) : constraintMk.sum xs = 3 * xs.length := by
  unfold Mk.sum constraintMk
  induction xs with
  | nil => rfl
  | cons x xs ih => simp only [List.map_cons, List.sum_cons, List.length_cons, ih]; omega
theorem cntConstraintS_le (xs : List Constraint) : (lstMk constraintMk).cnt xs ≤ 3 * xs.length := Nat.le_of_eq (constraintMk_sum xs)

end Go.Proofs.Ytmembjjgkideeaa

namespace Go.Proofs.Ytmembjjgkideeaa
open Go.RowKit

/-- an append; all that is known of the memory behind it -/
theorem wpList_app1h {P : Program} {α : Type} {R : RepO α} {ops : Array Oper} {rest : List Oper} {o : Oper} {a : Act} {W : World} {Q : Exit → Act → World → Prop} {t e : TypeId} {bytes : Nat} (E : ElemT P t e R.n bytes) (hsz : 0 < R.n)
    (hgd : o.guard = none) (s x : Operand) (ho : o.op = .call { callee := .builtin .append, args := #[s, x], argTypes := #[t, t] })
    {base : Nat} {v : Value} {xs : List α} {F : List Nat} (hb : Bld R W base e v xs F) (hs : a.eval s = v) {c : Array Value} {T : TypeId} (g k : Nat) (hx : a.eval x = .slice (some ⟨g, 0, none⟩) 1 k) (hg : g = W.heap.size)
    (h1 : ∀ u ∈ c.toList, u.oneCell' = true) {y : α} {G : List Nat} (hy : R.own W c.toList y G) (hG : (∀ b ∈ G, b ∉ F ∧ v.ownBlock ≠ some b) ∧ G.Nodup ∧ ∀ b ∈ G, base ≤ b)
    (hbytes : xs.length + 1 ≤ 1099511627776) (hby : bytes ≤ 128) (hbase : base ≤ W.heap.size)
    (h : ∀ v' w', Bld R w' base e v' (xs ++ [y]) (F ++ G) → (∀ w0 : World, w0.heap.size ≤ base → Ext w0 W → Ext w0 w') → Aft W w' v v' → wpList P ops Q rest (a.put o.dst v') w') :
    wpList P ops Q (o :: rest) a (W.alloc (.cells c T)) := by
  obtain ⟨ht, i, z, hi, hz, hsize, hby2, hzs⟩ := E
  have x1 : Ext W (W.alloc (.cells c T)) := (Ext.refl W).alloc _
  have hb1 := hb.ext x1
  have hl := hb1.lt
  obtain ⟨cs, b1, b2, b3, b4, b5⟩ := hb1
  have hy1 : R.own (W.alloc (.cells c T)) c.toList y G := R.own_keep (fun b hb => x1.block (R.own_lt hy b hb)) hy
  refine wpList_append_own_at (W.alloc (.cells c T)) hgd s x t ho base e i z R.n bytes ht hi hz hsize hby2 hzs hsz v xs.length cs hs b1 ⟨g, 0, none⟩ 1 k c.toList hx (by rw [R.len (R.own_rd hy), Nat.one_mul]) (fun j u hj => ?_) h1
    (by unfold maxLen; omega) (Nat.le_trans (Nat.mul_le_mul hbytes hby) (by decide)) (Nat.le_trans hbase x1.size) ?_
  · subst hg
    have : (W.alloc (.cells c T)).cell? ⟨W.heap.size, j, none⟩ = c[j]? := ((Ext.refl (W.alloc (.cells c T))).box).1 j
    rw [add_eq, Nat.zero_add, this]
    simpa using hj
  · intro v' w' hown hgr _ hat
    obtain ⟨h5, h6⟩ := bld_grown hl b2 b3 b4 b5 hy1 hG hown hgr hat
    refine h _ _ h5 (fun w0 h7 h8 => h6 w0 h7 (h8.trans x1)) ⟨fun b hb hv => ?_, Nat.le_trans x1.size hgr.size, fun b hb => ?_⟩
    · rw [hgr.block b (Nat.lt_of_lt_of_le hb x1.size) (fun e => hv e.symm), x1.block hb]
    · rcases hat with hat | hat
      · exact .inl (hat ▸ hb)
      · rw [hat] at hb
        injection hb with hb
        have := x1.size
        exact .inr (by omega)
end Go.Proofs.Ytmembjjgkideeaa
