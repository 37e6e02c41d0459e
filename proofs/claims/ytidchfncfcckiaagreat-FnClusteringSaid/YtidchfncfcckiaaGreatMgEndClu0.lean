/-
  SEVERAL SMALL TEXTS LAID TOGETHER: Lib, Types, Own, RegJ, Ints, Base, Upd, Blk4, Bit, Fn, Chg, Intss, App, Find, Mark, AppI, Shr, Can, Marks, AppG, Cnt.
-/
import Derived.WalkKit
import Derived.WalkSpells
import Derived.WalkLawsBesides
import Derived.ProofKit
import Derived.Deep.Slices
import Derived.Deep.Fields
import Derived.Deep.QuietTactic
import Derived.BigQuiet
import Derived.StillTailTactics
import Derived.Test.YtidchfncfcckiaaGreatRows
import Derived.OrdersHeld
import Derived.Laws.BitsAllLaws
import Derived.Laws.BitsLemmas
import Derived.Maps.AppendAt
import Derived.Deep.AppendLies

namespace Go.Proofs.YtidchfncfcckiaaGreat
open Go.RowKit Go.ChangeShapes Go.WideShapes

/-- a fact kept from the walk -/
theorem hid {p : Prop} (h : p) : Hid p := h

theorem ret_int {k : IntKind} {a b : Int} (h : a = b) : Ending.returned (.int k a) = .returned (.int k b) := by rw [h]
theorem ret_bool {a b : Bool} (h : a = b) : Ending.returned (.bool a) = .returned (.bool b) := by rw [h]

/-- are they one? -/
noncomputable def eqB {α : Type} (x y : α) : Bool := @decide (x = y) (Classical.propDecidable _)
theorem eqB_iff {α : Type} (x y : α) : eqB x y = true ↔ x = y := by unfold eqB; exact @decide_eq_true_iff _ (Classical.propDecidable _)
theorem eqB_self {α : Type} (x : α) : eqB x x = true := (eqB_iff x x).2 rfl
theorem eqB_true {α : Type} {x y : α} (h : x = y) : eqB x y = true := (eqB_iff x y).2 h
theorem eqB_false {α : Type} {x y : α} (h : ¬ x = y) : eqB x y = false := by
  cases hb : eqB x y
  · rfl
  · exact absurd ((eqB_iff x y).1 hb) h
theorem ne_of_at {α : Type} {xs ys : List α} {k : Nat} (h1 : k < xs.length) (h2 : k < ys.length) (h : ¬ xs[k] = ys[k]) : ¬ xs = ys := fun e => by subst e; exact h rfl
theorem take_snoc_eq {α : Type} {xs ys : List α} {k : Nat} (h1 : k < xs.length) (h2 : k < ys.length) (h : xs[k] = ys[k]) (ht : xs.take k = ys.take k) : xs.take (k + 1) = ys.take (k + 1) := by
  rw [List.take_succ_eq_append_getElem h1, List.take_succ_eq_append_getElem h2, ht, h]
theorem eq_of_take {α : Type} {xs ys : List α} {k : Nat} (h1 : ¬ k < xs.length) (hl : xs.length = ys.length) (ht : xs.take k = ys.take k) : xs = ys := by
  rwa [List.take_of_length_le (by omega), List.take_of_length_le (by omega)] at ht

/-- '==' on strings, as the walk writes it -/
theorem str_eq {a b : ByteArray} (h : a = b) : (a.toList == b.toList) = true := by simp [h]
theorem str_ne {a b : ByteArray} (h : ¬ a = b) : (a.toList == b.toList) = false := by
  rw [beq_eq_false_iff_ne]
  intro e
  rw [ByteArray.toList_eq, ByteArray.toList_eq] at e
  exact h (bytes_inj e)

/-- all that there was in w stands in w2 -/
def Ext (w w2 : World) : Prop := Below w.heap.size w w2
theorem Ext.refl (w : World) : Ext w w := Below.refl _ _
theorem Ext.trans {a b c : World} (h : Ext a b) (k : Ext b c) : Ext a c := Below.trans h (Below.mono k h.size)
theorem Ext.size {a b : World} (h : Ext a b) : a.heap.size ≤ b.heap.size := Below.size h
theorem Ext.drew {a b : World} (h : Ext a b) : Ext a b.drew := Below.drew h
theorem Ext.drewN {a b : World} (h : Ext a b) (n : Nat) : Ext a (b.drewN n) := ⟨h.os, h.tape, h.output, h.size, h.block⟩
theorem Ext.alloc {a b : World} (h : Ext a b) (o : Obj) : Ext a (b.alloc o) := Below.alloc h h.size o
theorem Ext.setCell {a b : World} (h : Ext a b) {p : Addr} (hp : a.heap.size ≤ p.block) (u : Value) : Ext a (b.setCell p u) := Below.setCell h hp u
theorem Ext.grown {a b c : World} {row : Option Nat} (h : Ext a b) (hg : b.grownBy c row) (hr : ∀ k, row = some k → a.heap.size ≤ k) : Ext a c := Below.grown h hg h.size hr
theorem Ext.cell {a b : World} (h : Ext a b) {p : Addr} {u : Value} (hc : a.cell? p = some u) : b.cell? p = some u :=
  (Below.cell h (World.block_lt_of_cell? a p hc)).trans hc
theorem Ext.block {a b : World} (h : Ext a b) {k : Nat} (hk : k < a.heap.size) : b.heap[k]? = a.heap[k]? := Below.block h k hk

theorem Ext.cells {a b : World} (h : Ext a b) : (∀ k o, k < a.heap.size → b.cell? ⟨k, o, none⟩ = a.cell? ⟨k, o, none⟩) ∧ (∀ k o, k < a.heap.size → b.frozen? ⟨k, o, none⟩ = a.frozen? ⟨k, o, none⟩) :=
  ⟨fun k o hk => Below.cell h (p := ⟨k, o, none⟩) hk, fun k o hk => Below.frozen h (p := ⟨k, o, none⟩) hk⟩
/-- a block of the call's own that was laid last: it stands -/
theorem Ext.box {w w2 : World} {cs : Array Value} {T : TypeId} (h : Ext (w.alloc (.cells cs T)) w2) :
    (∀ i, w2.cell? ⟨w.heap.size, i, none⟩ = cs[i]?) ∧ (∀ i, w2.frozen? ⟨w.heap.size, i, none⟩ = false) := by
  have hh : w2.heap[w.heap.size]? = some (.cells cs T (0, 0)) := (Below.block h w.heap.size (by simp)).trans (heap_alloc_new w _)
  exact ⟨fun i => cell_of_row w2 w.heap.size i cs T (0, 0) hh, fun i => frozen_of_row w2 w.heap.size i cs T hh⟩
theorem Ext.box1 {w w2 : World} {o : Obj} {cs : Array Value} {T : TypeId} (h : Ext ((w.alloc o).alloc (.cells cs T)) w2) :
    (∀ i, w2.cell? ⟨w.heap.size + 1, i, none⟩ = cs[i]?) ∧ (∀ i, w2.frozen? ⟨w.heap.size + 1, i, none⟩ = false) := by
  have := h.box
  simpa using this
theorem Ext.box2 {w w2 : World} {o o2 : Obj} {cs : Array Value} {T : TypeId} (h : Ext (((w.alloc o).alloc o2).alloc (.cells cs T)) w2) :
    (∀ i, w2.cell? ⟨w.heap.size + 1 + 1, i, none⟩ = cs[i]?) ∧ (∀ i, w2.frozen? ⟨w.heap.size + 1 + 1, i, none⟩ = false) := by
  have := h.box
  simpa using this
theorem Ext.of_eq {a b : World} (h : a = b) : Ext a b := h ▸ Ext.refl a

/-! ### A region that draws its order: reads and quiet calls, then one operation that writes -/
theorem still_of_quiet {P : Program} {ops : Array Oper} {w : World} {Q : Act → Prop} : ∀ (l : List Oper) (a : Act), wpQuiet P ops (fun w2 => w2 = w) Q l a → wpStill P ops w Q l a
  | [], _, h => h
  | o :: l, a, h => by
    unfold wpQuiet at h
    unfold wpStill
    split
    · rename_i hw
      rw [if_pos hw] at h
      obtain ⟨v, h1, h2⟩ := h
      have h3 := h1 w rfl
      unfold Oper.quietAt at h3
      unfold Oper.still
      generalize (execOp a.eval o).run P w = r at h3 ⊢
      cases r with
      | ok n w2 =>
        cases n <;> simp only [Oper.quietUpon] at h3 <;> simp only [Oper.stillUpon]
        case value u => exact ⟨h3.1, by rw [h3.2]; exact still_of_quiet l _ h2⟩
        case skip => exact ⟨h3.1, by rw [← h3.2]; exact still_of_quiet l _ h2⟩
        case enter f args => exact ⟨h3.1, v, h3.2, still_of_quiet l _ h2⟩
      | halt x w2 => simp only [Oper.quietUpon] at h3
    · rename_i hw
      rw [if_neg hw] at h
      exact still_of_quiet l _ h
theorem wp_region_tail {P : Program} {id : Nat} {Q : Exit → Act → World → Prop} {a : Act} {w wd : World} {l : List Oper} (n : Nat) (hw : wd = w.drew) (hm : P.follows .mixedOrders = true) (hB : Region.lexTailB .any l.toArray n = true)
    (h : wpQuiet P l.toArray (fun w2 => ∃ _ : Unit, w2 = wd) (fun a2 => wpList P l.toArray Q (l.drop n) a2 wd) (l.take n) a) : (Code.region id l.toArray true).wp P Q a w := by
  subst hw
  refine wp_region_still_tail n hm hB (still_of_quiet _ _ ?_)
  have e : (fun w2 : World => ∃ _ : Unit, w2 = w.drew) = fun w2 => w2 = w.drew := funext fun w2 => propext ⟨fun ⟨_, h⟩ => h, fun h => ⟨(), h⟩⟩
  rwa [e] at h

/-! ### A region that draws its order: its operations read, its calls hand back values that hang on no world -/
def ExtOf (W : World) := {w1 : World // Ext W w1}
instance (W : World) : Nonempty (ExtOf W) := ⟨⟨W, Ext.refl W⟩⟩
theorem Ext.boxes {w W : World} {cs : Array Value} {T : TypeId} (h : Ext (w.alloc (.cells cs T)) W) :
    (∀ i, W.cell? ⟨w.heap.size, i, none⟩ = cs[i]?) ∧ ∀ z : ExtOf W, ∀ i, z.1.cell? ⟨w.heap.size, i, none⟩ = cs[i]? :=
  ⟨h.box.1, fun z => (h.trans z.2).box.1⟩
theorem Ext.boxes1 {w W : World} {o : Obj} {cs : Array Value} {T : TypeId} (h : Ext ((w.alloc o).alloc (.cells cs T)) W) :
    (∀ i, W.cell? ⟨w.heap.size + 1, i, none⟩ = cs[i]?) ∧ ∀ z : ExtOf W, ∀ i, z.1.cell? ⟨w.heap.size + 1, i, none⟩ = cs[i]? :=
  ⟨h.box1.1, fun z => (h.trans z.2).box1.1⟩
theorem wp_region_ext {P : Program} {id : Nat} {Q : Exit → Act → World → Prop} {a : Act} {w : World} {l : List Oper} (hm : P.follows .mixedOrders = true) (hB : Region.lexB .any l.toArray = true)
    (h : wpQuiet P l.toArray (fun w1 => ∃ z : ExtOf w, w1 = z.1) (fun a2 => ∀ w1, (∃ z : ExtOf w, w1 = z.1) → Q .normal a2 w1) l a) : (Code.region id l.toArray true).wp P Q a w :=
  wp_region_quiet (C := fun w1 => ∃ z : ExtOf w, w1 = z.1) hm hB ⟨⟨_, (Ext.refl w).drew⟩, rfl⟩ (by simpa using h)
theorem quiet_ext {P : Program} {f : FuncId} {args : Array Value} {W : World} {z : ExtOf W} {v : Value} (h : Calls P f args z.1 fun e w2 => e = .returned v ∧ Ext z.1 w2) :
    Calls P f args z.1 fun e w2 => e = .returned v ∧ ∃ z2 : ExtOf W, w2 = z2.1 :=
  h.mono fun _ w2 ⟨he, hx⟩ => ⟨he, ⟨w2, z.2.trans hx⟩, rfl⟩
theorem quiet_tail {P : Program} {f : FuncId} {args : Array Value} {W : World} {v : Value} (h : Calls P f args W fun e w2 => e = .returned v ∧ W = w2) :
    Calls P f args W fun e w2 => e = .returned v ∧ w2 = W :=
  h.mono fun _ _ ⟨he, hx⟩ => ⟨he, hx.symm⟩
theorem quiet_same {P : Program} {f : FuncId} {args : Array Value} {W : World} {z : ExtOf W} {v : Value} (h : Calls P f args z.1 fun e w2 => e = .returned v ∧ z.1 = w2) :
    Calls P f args z.1 fun e w2 => e = .returned v ∧ ∃ z2 : ExtOf W, w2 = z2.1 :=
  h.mono fun _ _ ⟨he, hx⟩ => ⟨he, z, hx.symm⟩

def I64 (x : Int) : Prop := -9223372036854775808 ≤ x ∧ x ≤ 9223372036854775807
theorem I64.out {x : Int} (h : I64 x) : -9223372036854775808 ≤ x ∧ x ≤ 9223372036854775807 := h

/-- How a value of a Lean type lies in n cells. -/
structure Rep (α : Type) where
  n : Nat
  rd : World → List Value → α → Prop
  len : ∀ {w cs x}, rd w cs x → cs.length = n
  mono : ∀ {w w2 cs x}, Ext w w2 → rd w cs x → rd w2 cs x

def intR : Rep Int := ⟨1, fun _ cs x => cs = [.int .i64 x] ∧ I64 x, fun h => by simp [h.1], fun _ h => h⟩
def boolR : Rep Bool := ⟨1, fun _ cs x => cs = [.bool x], fun h => by rw [h]; rfl, fun _ h => h⟩
def strR : Rep ByteArray := ⟨1, fun _ cs s => cs = [.string s] ∧ s.size ≤ maxLen, fun h => by simp [h.1], fun _ h => h⟩

/-- the slice value v reads as the list xs -/
def Sl {α : Type} (R : Rep α) (w : World) (v : Value) (xs : List α) : Prop :=
  ∃ A cap, v = .slice A xs.length cap ∧ (xs.length ≤ cap ∧ cap ≤ maxLen) ∧ ∀ i (h : i < xs.length), ∃ b off cs, A = some ⟨b, off, none⟩ ∧ R.rd w cs xs[i] ∧
    ∀ j, j < R.n → w.cell? ⟨b, off + i * R.n + j, none⟩ = cs[j]?

theorem Sl.mono {α : Type} {R : Rep α} {w w2 : World} {v : Value} {xs : List α} (e : Ext w w2) (h : Sl R w v xs) : Sl R w2 v xs := by
  obtain ⟨A, cap, rfl, hm, hi⟩ := h
  refine ⟨A, cap, rfl, hm, fun i h => ?_⟩
  obtain ⟨b, off, cs, rfl, hr, hc⟩ := hi i h
  refine ⟨b, off, cs, rfl, R.mono e hr, fun j hj => ?_⟩
  have hl := R.len hr
  have hj' : j < cs.length := by omega
  have h1 := hc j hj
  rw [List.getElem?_eq_getElem hj'] at h1 ⊢
  exact e.cell h1

def slR {α : Type} (R : Rep α) : Rep (List α) := ⟨1, fun w cs xs => ∃ v, cs = [v] ∧ Sl R w v xs, fun ⟨_, h, _⟩ => by rw [h]; rfl, fun e ⟨v, h, k⟩ => ⟨v, h, k.mono e⟩⟩

/-- at index i: the address, and the cells -/
theorem Sl.at_ {α : Type} {R : Rep α} {w : World} {A : Option Addr} {n cap : Nat} {xs : List α} (h : Sl R w (.slice A n cap) xs) {i : Nat} (hi : i < xs.length) :
    ∃ b off cs, A = some ⟨b, off, none⟩ ∧ R.rd w cs xs[i] ∧ ∀ j, j < R.n → w.cell? ⟨b, off + i * R.n + j, none⟩ = cs[j]? := by
  obtain ⟨A', cap', he, hm, hh⟩ := h
  injection he with e1 e2 e3
  subst e1
  exact hh i hi
theorem Sl.cap_ {α : Type} {R : Rep α} {w : World} {A : Option Addr} {n cap : Nat} {xs : List α} (h : Sl R w (.slice A n cap) xs) : n = xs.length ∧ xs.length ≤ cap ∧ cap ≤ 9223372036854775807 := by
  obtain ⟨A', cap', he, hm, hh⟩ := h
  injection he with e1 e2 e3
  subst e3
  unfold maxLen at hm
  exact ⟨e2, hm.1, by omega⟩
/-- the first k, 's[:k]' -/
theorem Sl.take {α : Type} {R : Rep α} {w : World} {A : Option Addr} {n cap k : Nat} {xs : List α} (h : Sl R w (.slice A n cap) xs) (hk : k ≤ xs.length) : Sl R w (.slice A k cap) (xs.take k) := by
  obtain ⟨A', cap', he, hm, hh⟩ := h
  injection he with e1 e2 e3
  subst e1; subst e3
  have hl : (xs.take k).length = k := by simp; omega
  refine ⟨A, cap, by rw [hl], ⟨by omega, hm.2⟩, fun i hi => ?_⟩
  obtain ⟨b, off, cs, h1, h2, h3⟩ := hh i (by omega)
  exact ⟨b, off, cs, h1, by simpa using h2, h3⟩
theorem Sl.form {α : Type} {R : Rep α} {w : World} {v : Value} {xs : List α} (h : Sl R w v xs) : ∃ A cap, v = .slice A xs.length cap ∧ xs.length ≤ 9223372036854775807 := by
  obtain ⟨A, cap, he, hm, _⟩ := h
  exact ⟨A, cap, he, by unfold maxLen at hm; omega⟩

/-- a slice of ints, of bools, of strings: the one cell -/
theorem Sl.int {w : World} {A : Option Addr} {n cap : Nat} {xs : List Int} (h : Sl intR w (.slice A n cap) xs) {i : Nat} (hi : i < xs.length) :
    ∃ b off, A = some ⟨b, off, none⟩ ∧ I64 xs[i] ∧ w.cell? ⟨b, off + i, none⟩ = some (.int .i64 xs[i]) := by
  obtain ⟨b, off, cs, rfl, ⟨rfl, hr⟩, hc⟩ := h.at_ hi
  exact ⟨b, off, rfl, hr, by simpa [intR] using hc 0 (by simp [intR])⟩
theorem Sl.str {w : World} {A : Option Addr} {n cap : Nat} {xs : List ByteArray} (h : Sl strR w (.slice A n cap) xs) {i : Nat} (hi : i < xs.length) :
    ∃ b off, A = some ⟨b, off, none⟩ ∧ xs[i].size ≤ maxLen ∧ w.cell? ⟨b, off + i, none⟩ = some (.string xs[i]) := by
  obtain ⟨b, off, cs, rfl, ⟨rfl, hr⟩, hc⟩ := h.at_ hi
  exact ⟨b, off, rfl, hr, by simpa [strR] using hc 0 (by simp [strR])⟩
theorem Sl.sl {α : Type} {R : Rep α} {w : World} {A : Option Addr} {n cap : Nat} {xs : List (List α)} (h : Sl (slR R) w (.slice A n cap) xs) {i : Nat} (hi : i < xs.length) :
    ∃ b off A2 cap2, A = some ⟨b, off, none⟩ ∧ Sl R w (.slice A2 xs[i].length cap2) xs[i] ∧ w.cell? ⟨b, off + i, none⟩ = some (.slice A2 xs[i].length cap2) := by
  obtain ⟨b, off, cs, rfl, ⟨v, rfl, hr⟩, hc⟩ := h.at_ hi
  have hr' := hr
  obtain ⟨A2, cap2, rfl, _⟩ := hr
  exact ⟨b, off, A2, cap2, rfl, hr', by simpa [slR] using hc 0 (by simp [slR])⟩

/-- a new block of ints, as a slice -/
theorem Sl.new_ints (W : World) (xs : List Int) (T : TypeId) (n g : Nat) (hg : g = W.heap.size) (hn : n = xs.length) (h : ∀ x ∈ xs, I64 x) (hl : xs.length ≤ maxLen) :
    Sl intR (W.alloc (.cells (xs.map (Value.int .i64)).toArray T)) (.slice (some ⟨g, 0, none⟩) n n) xs := by
  subst hg
  subst hn
  refine ⟨_, _, rfl, ⟨Nat.le_refl _, hl⟩, fun i hi => ⟨_, _, _, rfl, ⟨rfl, h _ (List.getElem_mem hi)⟩, fun j hj => ?_⟩⟩
  have hj0 : j = 0 := by simp [intR] at hj; omega
  subst hj0
  rw [((Ext.refl _).box).1]
  simp [intR, hi]

/-! ### Readings of arguments -/

/-- values of type e of program P lie as R says, whenever they can be read -/
def Reads {α : Type} (P : Program) (e : TypeId) (R : Rep α) : Prop :=
  P.cellsOf e = R.n ∧ ∀ {H : Type} {enc : TypeId × Value → H} {w : World} {base : Nat} {spare : Nat → Bool} {held : Bool} {fuel : Nat} {cs : List Value} {x : DataW H × List MemPlace},
    DataW.trod enc P w base spare held fuel e cs = some x → ∃ a, R.rd w cs a

theorem wf_i64 {n : Int} (h : (Lit.int .i64 n).wf = true) : I64 n := by
  simpa [Lit.wf, IntKind.min, IntKind.max, IntKind.signed, IntKind.bits, I64] using h

theorem reads_int {P : Program} {e : TypeId} (he : P.underlying e = some (.int .i64)) (hc : P.cellsOf e = 1) : Reads P e intR :=
  ⟨hc, fun h => by
    obtain ⟨n, rfl, _, hw⟩ := DataW.trod_int he h
    exact ⟨n, rfl, wf_i64 hw⟩⟩
theorem reads_bool {P : Program} {e : TypeId} (he : P.underlying e = some .bool) (hc : P.cellsOf e = 1) : Reads P e boolR :=
  ⟨hc, fun h => by
    obtain ⟨n, rfl, _⟩ := DataW.trod_bool he h
    exact ⟨n, rfl⟩⟩
theorem reads_string {P : Program} {e : TypeId} (he : P.underlying e = some .string) (hc : P.cellsOf e = 1) : Reads P e strR :=
  ⟨hc, fun h => by
    obtain ⟨n, rfl, _, hs⟩ := DataW.trod_string he h
    exact ⟨n, rfl, hs⟩⟩

theorem choose_list {α : Type} {n : Nat} {p : Nat → α → Prop} (h : ∀ i, i < n → ∃ x, p i x) : ∃ l : List α, l.length = n ∧ ∀ i (hi : i < l.length), p i l[i] := by
  induction n with
  | zero => exact ⟨[], rfl, fun i hi => by simp at hi⟩
  | succ n ih =>
    obtain ⟨l, hl, hp⟩ := ih (fun i hi => h i (by omega))
    obtain ⟨x, hx⟩ := h n (by omega)
    refine ⟨l ++ [x], by simp [hl], fun i hi => ?_⟩
    by_cases hin : i < l.length
    · rw [List.getElem_append_left hin]; exact hp i hin
    · have : i = n := by simp at hi; omega
      subst this
      rw [List.getElem_append_right (by omega)]
      simpa [hl] using hx

theorem spot_none {w : World} {a : Addr} {u : Value} (h : w.cell? a = some u) : a.spot = none := by
  unfold World.cell? at h
  split at h
  · cases hs : a.spot with
    | none => rfl
    | some _ => simp [hs] at h
  · cases h

theorem add_eq {b off n : Nat} : (⟨b, off, none⟩ : Addr).add n = ⟨b, off + n, none⟩ := by
  unfold Addr.add; split <;> simp_all

theorem reads_slice {α : Type} {P : Program} {t e : TypeId} {R : Rep α} (ht : P.underlying t = some (.slice e)) (hc : P.cellsOf t = 1) (hn : 0 < R.n) (he : Reads P e R) : Reads P t (slR R) := by
  refine ⟨hc, fun {H enc w base spare held fuel cs x} h => ?_⟩
  rcases DataW.trod_slice ht h with ⟨rfl, _⟩ | ⟨a, len, cap, elems, rest, n, _, rfl, _, _, hl, hm, hel, hi, _⟩
  · exact ⟨[], _, rfl, none, 0, rfl, ⟨Nat.le_refl _, Nat.zero_le _⟩, fun i hi => by simp at hi⟩
  · have key : ∀ i, i < len → ∃ y : α, ∃ cs, R.rd w cs y ∧ ∀ j, j < R.n → w.cell? (a.add (i * R.n + j)) = cs[j]? := by
      intro i hilt
      have h1 := hi i hilt
      have h2 : elems[i]? = some (elems[i]'(by omega)) := List.getElem?_eq_getElem (by omega)
      rw [h2, he.1] at h1
      obtain ⟨cs', hcs, htr⟩ := Option.bind_eq_some_iff.1 h1
      obtain ⟨y, hy⟩ := he.2 htr
      obtain ⟨_, _, hat⟩ := World.cells?_some hcs
      exact ⟨y, cs', hy, fun j hj => by rw [← Go.Deep.add_add]; exact hat j hj⟩
    obtain ⟨xs, hxl, hxs⟩ := choose_list key
    subst hxl
    refine ⟨xs, _, rfl, some a, cap, rfl, ⟨hl, hm⟩, fun i hi' => ?_⟩
    obtain ⟨cs', hy, hcell⟩ := hxs i hi'
    have hl0 : ∃ u, w.cell? (a.add (0 * R.n + 0)) = some u := by
      obtain ⟨cs0, hr0, hc0⟩ := hxs 0 (by omega)
      have := R.len hr0
      exact ⟨cs0[0]'(by omega), by rw [hc0 0 hn, List.getElem?_eq_getElem]⟩
    obtain ⟨u, hu⟩ := hl0
    have hsp : a.spot = none := by
      have := spot_none hu
      simpa [Addr.add] using this
    obtain ⟨b, off, sp⟩ := a
    simp only at hsp
    subst hsp
    refine ⟨b, off, cs', rfl, hy, fun j hj => ?_⟩
    have := hcell j hj
    rw [add_eq] at this
    rw [Nat.add_assoc]; exact this

/-- a field of a struct -/
theorem Reads.field {α H : Type} {P : Program} {t : TypeId} {fs : Array Field} {R : Rep α} {enc : TypeId × Value → H} {w : World} {base : Nat} {spare : Nat → Bool} {held : Bool} {fuel : Nat} {cs : List Value} {x : DataW H × List MemPlace}
    (ht : P.underlying t = some (.struct fs)) (h : DataW.trod enc P w base spare held fuel t cs = some x) (i : Nat) (f : Field) (hf : fs[i]? = some f) (hr : Reads P f.type R) :
    ∃ a, R.rd w ((cs.drop f.offset).take R.n) a := by
  obtain ⟨xs, n, _, _, _, hl, hi⟩ := DataW.trod_struct ht h
  have h1 := hi i f hf
  have hlt : i < fs.size := (Array.getElem?_eq_some_iff.1 hf).1
  rw [List.getElem?_eq_getElem (by omega), hr.1] at h1
  exact hr.2 h1
theorem struct_len {H : Type} {P : Program} {t : TypeId} {fs : Array Field} {enc : TypeId × Value → H} {w : World} {base : Nat} {spare : Nat → Bool} {held : Bool} {fuel : Nat} {cs : List Value} {x : DataW H × List MemPlace}
    (ht : P.underlying t = some (.struct fs)) (h : DataW.trod enc P w base spare held fuel t cs = some x) : cs.length = P.cellsOf t := by
  obtain ⟨xs, n, _, _, hl, _⟩ := DataW.trod_struct ht h
  exact hl

/-- an argument that is a struct -/
theorem arg_struct {α H : Type} {P : Program} {t : TypeId} {fs : Array Field} {R : Rep α} {enc : TypeId × Value → H} {w : World} {r : Reach} {b0 base : Nat} {spare : Nat → Bool} {held : Bool} {v : Value} {d : DataW H} {p : List MemPlace}
    (ht : P.underlying t = some (.struct fs)) (hr : Reads P t R) (hv : Value.okWide P w r b0 t v) (h : DataW.Trod enc P w base spare held t v d p) : ∃ cs x, v = .agg cs.toArray ∧ R.rd w cs x := by
  obtain ⟨cs, rfl, _⟩ := okWide_struct ht hv
  obtain ⟨fuel, hf⟩ := h
  obtain ⟨x, hx⟩ := hr.2 hf
  exact ⟨cs.toList, x, by simp, by simpa [Value.cells] using hx⟩
/-- an argument that is a slice -/
theorem arg_slice {α H : Type} {P : Program} {t e : TypeId} {R : Rep α} {enc : TypeId × Value → H} {w : World} {r : Reach} {b0 base : Nat} {spare : Nat → Bool} {held : Bool} {v : Value} {d : DataW H} {p : List MemPlace}
    (ht : P.underlying t = some (.slice e)) (hr : Reads P t (slR R)) (hv : Value.okWide P w r b0 t v) (h : DataW.Trod enc P w base spare held t v d p) : ∃ xs, Sl R w v xs := by
  obtain ⟨a, n, c, rfl⟩ := okWide_slice ht hv
  obtain ⟨fuel, hf⟩ := h
  obtain ⟨xs, v', hx, hs⟩ := hr.2 hf
  simp [Value.cells] at hx
  subst hx
  exact ⟨xs, hs⟩

/-! ### The end of a law -/

theorem args_below {H : Type} {enc : TypeId × Value → H} {P : Program} (hl : laidOutB P = true) {W W2 : World} (hb : Below W.heap.size W W2) :
    ∀ {ts : List TypeId} {vs : List Value} {ds : List (DataW H)} {ps : List MemPlace}, (∀ t ∈ ts, P.readableRec t = true ∧ t < P.types.size) → DataW.TrodAll enc P W 0 (fun _ => true) true ts vs ds ps →
      (∀ x ∈ ps, x.block < W.heap.size) → DataW.TrodAll enc P W2 0 (fun b => decide (b < W.heap.size)) true ts vs ds ps
  | [], _, _, _, _, h, _ => by
    obtain ⟨rfl, rfl, rfl⟩ := trodAll_nil h
    exact rfl
  | t :: ts, _, _, _, hr, h, hlt => by
    obtain ⟨v, vs1, d, ds1, a, b, rfl, rfl, rfl, h1, h2⟩ := trodAll_cons h
    refine ⟨a, b, ?_, args_below hl hb (fun t ht => hr t (List.mem_cons_of_mem _ ht)) h2 (fun x hx => hlt x (List.mem_append_right _ hx)), rfl⟩
    exact Below.trod hl (hr t (List.mem_cons_self ..)).1 (hr t (List.mem_cons_self ..)).2 h1 hb (fun x hx => hlt x (List.mem_append_left _ hx))

/-- What a law's walk owes: true, and all that there was stands. -/
theorem law_post {H : Type} {enc : TypeId × Value → H} {P : Program} {f : FuncId} {fn : Func} {s : ChangeSpec} {tb : TypeId} (hl : laidOutB P = true)
    (hr : ∀ t ∈ fn.params.toList, P.readableRec t = true ∧ t < P.types.size) (hres : fn.resultTypes = #[tb]) (htb : P.underlying tb = some .bool) (hv : s.vars = [])
    {W : World} {args : Array Value} {ds gs : List (DataW H)} {before : List MemPlace} (hs : s.fn H ds = { results := [.lit (.bool true)], args := ds })
    (hW : DataW.Whole enc P fn.params.toList s.vars false W args.toList ds gs before)
    (h : Calls P f args W fun e W2 => e = .returned (.bool true) ∧ Ext W W2) :
    Calls P f args W fun e W2 => ∃ v, e = .returned v ∧ s.post enc P fn false true false false W args v W2 := by
  refine h.mono fun e W2 ⟨he, hb⟩ => ⟨_, he, ?_⟩
  have hlt : ∀ p ∈ before, p.block < W.heap.size := fun p hp => hW.lt p hp
  have hW0 := hW
  obtain ⟨p, q, hA, hV, rfl, _, _⟩ := hW
  rw [hv] at hV
  obtain ⟨rfl, rfl⟩ := trodVars_none hV
  simp only [List.append_nil] at hlt hW0
  refine ⟨ds, [], p, [], p, [], hW0, ?_, ?_, ?_, World.keptBut_mono (fun x hx => ⟨hx, .inr (.inl hx)⟩) (Below.frame hb (· ∈ p)), fun h => by cases h⟩
  · rw [List.append_nil, hs, hres]
    exact trodAll_mk1 (shut_bool htb true)
  · rw [List.append_nil, hs]
    exact args_below hl hb hr hA hlt
  · rw [List.append_nil, hs, hv]
    exact rfl

end Go.Proofs.YtidchfncfcckiaaGreat

namespace Go.Proofs.YtidchfncfcckiaaGreat
open Go.RowKit

theorem laidOut : laidOutB Tryz.prog = true := by kernel_rfl
theorem own : ownKnob Tryz.prog.godebug = none := by kernel_rfl

theorem rInt : Reads Tryz.prog 3 intR := reads_int Tryz.underlying3 (by kernel_rfl)
theorem rBool : Reads Tryz.prog 4 boolR := reads_bool Tryz.underlying4 (by kernel_rfl)
theorem rStr : Reads Tryz.prog 9 strR := reads_string Tryz.underlying9 (by kernel_rfl)
theorem rInts : Reads Tryz.prog 28 (slR intR) := reads_slice Tryz.underlying28 (by kernel_rfl) (by decide) rInt
theorem rIntss : Reads Tryz.prog 24 (slR (slR intR)) := reads_slice Tryz.underlying24 (by kernel_rfl) (by decide) rInts

structure Verdict where
  a : Int
  b : Int
  same : Bool
  time : Int
def Verdict.cells (v : Verdict) : List Value := [.int .i64 v.a, .int .i64 v.b, .bool v.same, .int .i64 v.time]
def Verdict.val (v : Verdict) : Value := .agg #[.int .i64 v.a, .int .i64 v.b, .bool v.same, .int .i64 v.time]
def Verdict.ok (v : Verdict) : Prop := I64 v.a ∧ I64 v.b ∧ I64 v.time
def verdictR : Rep Verdict := ⟨4, fun _ cs v => cs = v.cells ∧ v.ok, fun h => by rw [h.1]; rfl, fun _ h => h⟩
theorem list4 {cs : List Value} (h : cs.length = 4) {a b c d : Value} (ha : (cs.drop 0).take 1 = [a]) (hb : (cs.drop 1).take 1 = [b]) (hc : (cs.drop 2).take 1 = [c]) (hd : (cs.drop 3).take 1 = [d]) : cs = [a, b, c, d] := by
  match cs, h with
  | [x, y, z, u], _ => simp_all
theorem reads_verdict {t : TypeId} {f0 f1 f2 f3 : Field} (ht : Tryz.prog.underlying t = some (.struct #[f0, f1, f2, f3])) (hc : Tryz.prog.cellsOf t = 4)
    (h0 : f0.type = 3 ∧ f0.offset = 0) (h1 : f1.type = 3 ∧ f1.offset = 1) (h2 : f2.type = 4 ∧ f2.offset = 2) (h3 : f3.type = 3 ∧ f3.offset = 3) : Reads Tryz.prog t verdictR := by
  refine ⟨hc, fun h => ?_⟩
  obtain ⟨a, e0, w0⟩ := Reads.field ht h 0 f0 rfl (h0.1 ▸ rInt)
  obtain ⟨b, e1, w1⟩ := Reads.field ht h 1 f1 rfl (h1.1 ▸ rInt)
  obtain ⟨s, e2⟩ := Reads.field ht h 2 f2 rfl (h2.1 ▸ rBool)
  obtain ⟨tm, e3, w3⟩ := Reads.field ht h 3 f3 rfl (h3.1 ▸ rInt)
  rw [h0.2] at e0; rw [h1.2] at e1; rw [h2.2] at e2; rw [h3.2] at e3
  exact ⟨⟨a, b, s, tm⟩, list4 ((struct_len ht h).trans hc) e0 e1 e2 e3, w0, w1, w3⟩
end Go.Proofs.YtidchfncfcckiaaGreat

namespace Go.Proofs.YtidchfncfcckiaaGreat
open Go.RowKit

structure RepO (α : Type) extends Rep α where
  own : World → List Value → α → List Nat → Prop
  own_rd : ∀ {w cs x F}, own w cs x F → rd w cs x
  own_lt : ∀ {w cs x F}, own w cs x F → ∀ b ∈ F, b < w.heap.size
  own_keep : ∀ {w w2 cs x F}, (∀ b ∈ F, w2.heap[b]? = w.heap[b]?) → own w cs x F → own w2 cs x F

/-- data without pointers own nothing -/
def flatO {α : Type} (R : Rep α) (hf : ∀ w w2 cs x, R.rd w cs x → R.rd w2 cs x) : RepO α :=
  { R with
    own := fun w cs x F => R.rd w cs x ∧ F = []
    own_rd := fun h => h.1
    own_lt := fun h b hb => by rw [h.2] at hb; cases hb
    own_keep := fun _ h => ⟨hf _ _ _ _ h.1, h.2⟩ }
def intO : RepO Int := flatO intR fun _ _ _ _ h => h
def boolO : RepO Bool := flatO boolR fun _ _ _ _ h => h
def strO : RepO ByteArray := flatO strR fun _ _ _ _ h => h

def OwnCells {α : Type} (R : RepO α) (w : World) : List Value → List α → List Nat → Prop
  | cs, [], F => cs = [] ∧ F = []
  | cs, x :: xs, F => ∃ c d F1 F2, cs = c ++ d ∧ F = F1 ++ F2 ∧ R.own w c x F1 ∧ OwnCells R w d xs F2

section
variable {α : Type} {R : RepO α} {w w2 : World} {cs ds : List Value} {xs ys : List α} {F G : List Nat}
theorem OwnCells.nil : OwnCells R w [] [] [] := ⟨rfl, rfl⟩
theorem OwnCells.length : ∀ {xs : List α} {cs : List Value} {F : List Nat}, OwnCells R w cs xs F → cs.length = xs.length * R.n
  | [], _, _, h => by rw [h.1]; simp
  | x :: xs, _, _, ⟨c, d, F1, F2, h1, _, h2, h3⟩ => by
    rw [h1, List.length_append, R.len (R.own_rd h2), OwnCells.length h3, List.length_cons, Nat.add_mul]; omega
theorem OwnCells.lt : ∀ {xs : List α} {cs : List Value} {F : List Nat}, OwnCells R w cs xs F → ∀ b ∈ F, b < w.heap.size
  | [], _, _, h, b, hb => by rw [h.2] at hb; cases hb
  | x :: xs, _, _, ⟨c, d, F1, F2, _, h1, h2, h3⟩, b, hb => by
    rw [h1] at hb
    rcases List.mem_append.1 hb with hb | hb
    · exact R.own_lt h2 b hb
    · exact OwnCells.lt h3 b hb
theorem OwnCells.keep : ∀ {xs : List α} {cs : List Value} {F : List Nat}, (∀ b ∈ F, w2.heap[b]? = w.heap[b]?) → OwnCells R w cs xs F → OwnCells R w2 cs xs F
  | [], _, _, _, h => h
  | x :: xs, _, _, hk, ⟨c, d, F1, F2, h0, h1, h2, h3⟩ => by
    subst h1
    exact ⟨c, d, F1, F2, h0, rfl, R.own_keep (fun b hb => hk b (List.mem_append_left _ hb)) h2, OwnCells.keep (fun b hb => hk b (List.mem_append_right _ hb)) h3⟩
theorem OwnCells.append : ∀ {xs : List α} {cs : List Value} {F : List Nat}, OwnCells R w cs xs F → OwnCells R w ds ys G → OwnCells R w (cs ++ ds) (xs ++ ys) (F ++ G)
  | [], _, _, h, k => by rw [h.1, h.2]; exact k
  | x :: xs, _, _, ⟨c, d, F1, F2, h0, h1, h2, h3⟩, k => by
    subst h0; subst h1
    exact ⟨c, d ++ ds, F1, F2 ++ G, by simp, by simp, h2, OwnCells.append h3 k⟩
theorem OwnCells.one {x : α} {c : List Value} (h : R.own w c x F) : OwnCells R w c [x] F := ⟨c, [], F, [], by simp, by simp, h, rfl, rfl⟩
theorem OwnCells.snoc {x : α} {c : List Value} (h : OwnCells R w cs xs F) (k : R.own w c x G) : OwnCells R w (cs ++ c) (xs ++ [x]) (F ++ G) := h.append (.one k)
/-- parted at index i -/
theorem OwnCells.split : ∀ {xs : List α} {cs : List Value} {F : List Nat} (i : Nat) (_ : OwnCells R w cs xs F) (hi : i < xs.length),
    ∃ c0 c c1 F0 F1 F2, cs = c0 ++ (c ++ c1) ∧ F = F0 ++ (F1 ++ F2) ∧ c0.length = i * R.n ∧ c.length = R.n ∧ OwnCells R w c0 (xs.take i) F0 ∧ R.own w c xs[i] F1 ∧ OwnCells R w c1 (xs.drop (i + 1)) F2
  | [], _, _, i, _, hi => by simp at hi
  | x :: xs, _, _, 0, ⟨c, d, F1, F2, h0, h1, h2, h3⟩, _ => ⟨[], c, d, [], F1, F2, by simpa using h0, by simpa using h1, by simp, R.len (R.own_rd h2), OwnCells.nil, h2, by simpa using h3⟩
  | x :: xs, _, _, i + 1, ⟨c, d, F1, F2, h0, h1, h2, h3⟩, hi => by
    obtain ⟨c0, c', c1, G0, G1, G2, e0, e1, e2, e3, k0, k1, k2⟩ := OwnCells.split i h3 (by simpa using hi)
    refine ⟨c ++ c0, c', c1, F1 ++ G0, G1, G2, by rw [h0, e0]; simp, by rw [h1, e1]; simp, ?_, e3, ?_, by simpa using k1, by simpa using k2⟩
    · rw [List.length_append, R.len (R.own_rd h2), e2, Nat.add_mul]; omega
    · exact ⟨c, c0, F1, G0, rfl, rfl, h2, k0⟩
theorem OwnCells.rd (h : OwnCells R w cs xs F) {i : Nat} (hi : i < xs.length) : ∃ c, R.rd w c xs[i] ∧ ∀ j, j < R.n → cs[i * R.n + j]? = c[j]? := by
  obtain ⟨c0, c, c1, F0, F1, F2, rfl, rfl, e2, e3, _, k1, _⟩ := h.split i hi
  refine ⟨c, R.own_rd k1, fun j hj => ?_⟩
  rw [List.getElem?_append_right (by omega), e2, show i * R.n + j - i * R.n = j by omega, List.getElem?_append_left (by omega)]
end

/-- the slice v is the list xs, in blocks of its own -/
def OwnSl {α : Type} (R : RepO α) (w : World) (v : Value) (xs : List α) (F : List Nat) : Prop :=
  (xs = [] ∧ F = [] ∧ ∃ A cap, v = .slice A 0 cap ∧ cap ≤ maxLen) ∨
  ∃ g off cap cur e F2, v = .slice (some ⟨g, off, none⟩) xs.length cap ∧ (xs.length ≤ cap ∧ cap ≤ maxLen) ∧ w.heap[g]? = some (.cells cur e (0, 0)) ∧ F = g :: F2 ∧
    off + xs.length * R.n ≤ cur.size ∧ OwnCells R w ((cur.toList.drop off).take (xs.length * R.n)) xs F2

section
variable {α : Type} {R : RepO α} {w w2 : World} {v : Value} {xs : List α} {F : List Nat}
theorem block_lt {g : Nat} {o : Obj} (h : w.heap[g]? = some o) : g < w.heap.size := (Array.getElem?_eq_some_iff.1 h).1
theorem OwnSl.lt (h : OwnSl R w v xs F) : ∀ b ∈ F, b < w.heap.size := by
  rcases h with ⟨_, rfl, _⟩ | ⟨g, off, cap, cur, e, F2, _, _, hg, rfl, _, hc⟩
  · intro b hb; cases hb
  · intro b hb
    rcases List.mem_cons.1 hb with rfl | hb
    · exact block_lt hg
    · exact hc.lt b hb
theorem OwnSl.keep (h : OwnSl R w v xs F) (hk : ∀ b ∈ F, w2.heap[b]? = w.heap[b]?) : OwnSl R w2 v xs F := by
  rcases h with h | ⟨g, off, cap, cur, e, F2, rfl, hm, hg, rfl, hs, hc⟩
  · exact .inl h
  · exact .inr ⟨g, off, cap, cur, e, F2, rfl, hm, (hk g (List.mem_cons_self ..)).trans hg, rfl, hs, hc.keep fun b hb => hk b (List.mem_cons_of_mem _ hb)⟩
theorem OwnSl.ext (h : OwnSl R w v xs F) (e : Ext w w2) : OwnSl R w2 v xs F := h.keep fun b hb => e.block (h.lt b hb)
theorem OwnSl.sl (h : OwnSl R w v xs F) : Sl R.toRep w v xs := by
  rcases h with ⟨rfl, _, A, cap, rfl, hcm⟩ | ⟨g, off, cap, cur, e, F2, rfl, hm, hg, rfl, hs, hc⟩
  · exact ⟨A, cap, rfl, ⟨Nat.zero_le _, hcm⟩, fun i hi => by simp at hi⟩
  · refine ⟨_, cap, rfl, hm, fun i hi => ?_⟩
    obtain ⟨c, hr, hj⟩ := hc.rd hi
    refine ⟨g, off, c, rfl, hr, fun j hjn => ?_⟩
    rw [← hj j hjn, cell_of_row w g _ cur e (0, 0) hg]
    have hlt : i * R.n + j < xs.length * R.n := Nat.lt_of_lt_of_le (by omega : i * R.n + j < i * R.n + R.n) (by rw [← Nat.succ_mul]; exact Nat.mul_le_mul_right _ hi)
    rw [List.getElem?_take, if_pos hlt, List.getElem?_drop]
    simp [Nat.add_assoc]
theorem OwnSl.form (h : OwnSl R w v xs F) : ∃ A cap, v = .slice A xs.length cap ∧ xs.length ≤ 9223372036854775807 := h.sl.form
end

/-- a slice as an element -/
def slO {α : Type} (R : RepO α) : RepO (List α) :=
  { slR R.toRep with
    own := fun w cs xs F => ∃ v, cs = [v] ∧ OwnSl R w v xs F
    own_rd := fun ⟨v, h, k⟩ => ⟨v, h, k.sl⟩
    own_lt := fun ⟨_, _, k⟩ => k.lt
    own_keep := fun hk ⟨v, h, k⟩ => ⟨v, h, k.keep hk⟩ }

/-- blocks that are new since w, each once -/
def NewF (w : World) (F : List Nat) : Prop := F.Nodup ∧ ∀ b ∈ F, w.heap.size ≤ b
theorem NewF.nil (w : World) : NewF w [] := ⟨List.nodup_nil, fun _ h => by cases h⟩
theorem NewF.ext {w w2 : World} {F : List Nat} (e : Ext w w2) (h : NewF w2 F) : NewF w F := ⟨h.1, fun b hb => Nat.le_trans e.size (h.2 b hb)⟩
theorem NewF.append {w w2 : World} {F G : List Nat} (hF : NewF w F) (hG : NewF w2 G) (e : Ext w w2) (hlt : ∀ b ∈ F, b < w2.heap.size) : NewF w (F ++ G) := by
  refine ⟨List.nodup_append.2 ⟨hF.1, hG.1, fun a ha b hb => ?_⟩, fun b hb => ?_⟩
  · have h1 := hlt a ha
    have h2 := hG.2 b hb
    omega
  · rcases List.mem_append.1 hb with hb | hb
    · exact hF.2 b hb
    · exact Nat.le_trans e.size (hG.2 b hb)

/-! ### A block of the call's own, while it is written -/
/-- block g holds the cells cs, none frozen -/
def Blk (w : World) (g : Nat) (e : TypeId) (cs : List Value) : Prop := w.heap[g]? = some (.cells cs.toArray e (0, 0))
theorem Blk.out {w : World} {g : Nat} {e : TypeId} {cs : List Value} (h : Blk w g e cs) : w.heap[g]? = some (.cells cs.toArray e (0, 0)) := h
theorem Blk.new (w : World) (e : TypeId) (cs : Array Value) : Blk (w.alloc (.cells cs e)) w.heap.size e cs.toList := heap_alloc_new w _
theorem Blk.keep {w w2 : World} {g : Nat} {e : TypeId} {cs : List Value} (h : Blk w g e cs) (k : w2.heap[g]? = w.heap[g]?) : Blk w2 g e cs := Eq.trans k h
theorem Blk.ext {w w2 : World} {g : Nat} {e : TypeId} {cs : List Value} (h : Blk w g e cs) (k : Ext w w2) : Blk w2 g e cs := h.keep (k.block (block_lt h))
theorem Blk.cells {w : World} {g : Nat} {e : TypeId} {cs : List Value} (h : Blk w g e cs) : (∀ i, w.cell? ⟨g, i, none⟩ = cs[i]?) ∧ ∀ i, w.frozen? ⟨g, i, none⟩ = false :=
  ⟨fun i => by rw [cell_of_row w g i _ e (0, 0) h]; simp, fun i => frozen_of_row w g i _ e h⟩
theorem Blk.store {w : World} {g : Nat} {done rest : List Value} {z : Value} {e : TypeId} {k : Nat} (h : Blk w g e (done ++ z :: rest)) (hk : done.length = k) (u : Value) :
    Blk (w.setCell ⟨g, k, none⟩ u) g e ((done ++ [u]) ++ rest) := by
  unfold Blk at *
  rw [heap_setCell_same w g k _ e u h]
  subst hk
  simp
theorem Blk.at_ {w : World} {g : Nat} {done rest : List Value} {z : Value} {e : TypeId} {k : Nat} (h : Blk w g e (done ++ z :: rest)) (hk : done.length = k) :
    w.cell? ⟨g, k, none⟩ = some z ∧ w.frozen? ⟨g, k, none⟩ = false := by
  refine ⟨?_, h.cells.2 k⟩
  rw [h.cells.1]
  subst hk
  simp
section
variable {α : Type} {R : RepO α} {w w2 : World} {v : Value} {xs : List α} {F : List Nat}
/-- a row laid whole -/
theorem OwnSl.of_blk {g : Nat} {cs : List Value} {e : TypeId} {F2 : List Nat} (hg : Blk w g e cs) (hm : xs.length ≤ maxLen) (hc : OwnCells R w cs xs F2) :
    OwnSl R w (.slice (some ⟨g, 0, none⟩) xs.length xs.length) xs (g :: F2) :=
  .inr ⟨g, 0, _, _, e, F2, rfl, ⟨Nat.le_refl _, hm⟩, hg, rfl, by simp [hc.length], by simpa [← hc.length] using hc⟩
end
theorem keep_setCell {w : World} {p : Addr} {u : Value} {b : Nat} (h : b ≠ p.block) : (w.setCell p u).heap[b]? = w.heap[b]? := Below.heap_setCell w p u b h

/-- blocks from g + 1 on, each once -/
def FromF (g : Nat) (F : List Nat) : Prop := F.Nodup ∧ ∀ b ∈ F, g < b
theorem FromF.nil (g : Nat) : FromF g [] := ⟨List.nodup_nil, fun _ h => by cases h⟩
theorem FromF.new {g : Nat} {w : World} {F : List Nat} (h : FromF g F) (hg : g = w.heap.size) : NewF w (g :: F) :=
  ⟨List.nodup_cons.2 ⟨fun hm => by have := h.2 g hm; omega, h.1⟩, fun b hb => by
    rcases List.mem_cons.1 hb with rfl | hb
    · omega
    · have := h.2 b hb; omega⟩
/-- one element more: it was made between wr and w2, and stored in block g -/
theorem OwnCells.step {α : Type} {R : RepO α} {wr w2 w3 : World} {g : Nat} {done c : List Value} {xs : List α} {x : α} {F F2 : List Nat} (h : OwnCells R wr done xs F) (hF : FromF g F)
    (hx : Ext wr w2) (ho : R.own w2 c x F2) (hn : NewF wr F2) (hg : g < wr.heap.size) (hk : ∀ b, b ≠ g → w3.heap[b]? = w2.heap[b]?) :
    OwnCells R w3 (done ++ c) (xs ++ [x]) (F ++ F2) ∧ FromF g (F ++ F2) := by
  have h2 : ∀ b ∈ F2, g < b := fun b hb => Nat.lt_of_lt_of_le hg (hn.2 b hb)
  refine ⟨?_, ?_, fun b hb => ?_⟩
  · refine OwnCells.snoc (h.keep fun b hb => ?_) (R.own_keep (fun b hb => hk b (by have := h2 b hb; omega)) ho)
    rw [hk b (by have := hF.2 b hb; omega), hx.block (h.lt b hb)]
  · refine List.nodup_append.2 ⟨hF.1, hn.1, fun a ha b hb => ?_⟩
    have := h.lt a ha
    have := hn.2 b hb
    omega
  · rcases List.mem_append.1 hb with hb | hb
    · exact hF.2 b hb
    · exact h2 b hb

theorem OwnSl.setCell {α : Type} {R : RepO α} {w : World} {v : Value} {xs : List α} {F : List Nat} (h : OwnSl R w v xs F) {p : Addr} (hp : p.block ∉ F) (u : Value) : OwnSl R (w.setCell p u) v xs F :=
  h.keep fun b hb => keep_setCell (fun e => hp (e ▸ hb))
theorem OwnCells.setCell {α : Type} {R : RepO α} {w : World} {cs : List Value} {xs : List α} {F : List Nat} (h : OwnCells R w cs xs F) {p : Addr} (hp : p.block ∉ F) (u : Value) : OwnCells R (w.setCell p u) cs xs F :=
  h.keep fun b hb => keep_setCell (fun e => hp (e ▸ hb))

/-! ### make -/
theorem madeCells_flat (zs : List Value) (n : Nat) : (madeCells zs.toArray (n * zs.length)).toList = (List.replicate n zs).flatten := by
  induction n with
  | zero => simp [madeCells]
  | succ n ih =>
    rw [List.replicate_succ', List.flatten_append, ← ih]
    apply List.ext_getElem?
    intro j
    simp only [madeCells, List.size_toArray, Array.toList_map, Array.toList_range, List.getElem?_map, List.flatten_cons, List.flatten_nil, List.append_nil]
    by_cases h1 : j < n * zs.length
    · rw [List.getElem?_append_left (by simpa using h1)]
      simp [h1, Nat.add_mul, Nat.lt_of_lt_of_le h1]
    · rw [List.getElem?_append_right (by simpa using h1)]
      simp only [List.length_map, List.length_range]
      by_cases h2 : j < (n + 1) * zs.length
      · have h3 : j - n * zs.length < zs.length := by rw [Nat.add_mul] at h2; omega
        have h4 : j % zs.length = j - n * zs.length := by
          have e : zs.length * n + (j - n * zs.length) = j := by rw [Nat.mul_comm zs.length n]; omega
          have h5 : (zs.length * n + (j - n * zs.length)) % zs.length = j - n * zs.length := by rw [Nat.mul_add_mod, Nat.mod_eq_of_lt h3]
          rwa [e] at h5
        simp [h2, h3, h4]
      · have h3 : ¬ j - n * zs.length < zs.length := by rw [Nat.add_mul] at h2; omega
        simp [h2, h3]

theorem run_mk {P : Program} (t e : TypeId) (i : TypeInfo) (z : Value) (zs : List Value) (bytes : Nat) (ht : P.underlying t = some (.slice e)) (hi : P.info? e = some i) (hz : i.zero = some z)
    (hzs : z.cells = zs.toArray) (hsz : i.size = zs.length) (hby : i.bytes = bytes) (n : Nat) (hb : bytes * n ≤ 281474976710656) (h63 : n ≤ 9223372036854775807) :
    ∀ W : World, (Instr.makeSlice t (.int .i64 (n : Int)) (.int .i64 (n : Int))).run P W = .ok (.slice (some ⟨W.heap.size, 0, none⟩) n n) (W.alloc (.cells (List.replicate n zs).flatten.toArray e)) := by
  intro W
  have hb2 : (i.bytes : Int) * (n : Int) ≤ 281474976710656 := by
    have h : ((i.bytes * n : Nat) : Int) ≤ 281474976710656 := by rw [hby]; omega
    rwa [Int.natCast_mul] at h
  have hr := run_make (P := P) W t e i z ht hi hz .i64 .i64 n n (by omega) (Int.le_refl _) hb2 (by omega)
  simp only [Int.toNat_natCast] at hr
  rw [hr, hzs, hsz, ← madeCells_flat]
end Go.Proofs.YtidchfncfcckiaaGreat

namespace Go.Proofs.YtidchfncfcckiaaGreat
open Go.RowKit

section
variable {P : Program} {ops : Array Oper} {md : Region.Mode} {Q : Exit → Act → World → Prop} {S : World → Prop} {m : Nat}

def wpAnyJ (P : Program) (md : Region.Mode) (ops : Array Oper) (Q : Exit → Act → World → Prop) (S : World → Prop) (m : Nat) : Nat → Array Bool → Act → World → Prop
  | 0, listed, a, w => Region.ready md ops listed = [] ∧ Q .normal a w
  | f + 1, listed, a, w => (Region.ready md ops listed = [] → Q .normal a w) ∧
    ∀ i ∈ Region.ready md ops listed, wpOp P ops Q i (fun a' w' => (i ≠ m → S w') ∧ wpAnyJ P md ops Q S m f (listed.setIfInBounds i true) a' w') a w

theorem wpAny_of_J : ∀ (f : Nat) (listed : Array Bool) (a : Act) (w : World), wpAnyJ P md ops Q S m f listed a w → wpAny P md ops Q f listed a w
  | 0, _, _, _, h => h
  | f + 1, _, _, _, h => ⟨h.1, fun i hi => wpOp_mono (fun a' w' h' => wpAny_of_J f _ a' w' h'.2) (h.2 i hi)⟩

theorem wpAnyJ_first {i : Nat} {oi : Oper} {v : Value} (hi : ops[i]? = some oi) (hwm : Region.waitsFor md ops m i = true) (hsel : ∀ (j : Nat) (o : Oper) cs b, ops[j]? = some o → o.op ≠ .select cs b)
    (hQ : ∀ c a w, Q (.panic c) (a.put oi.dst v) w → Q (.panic c) a w) :
    ∀ (fuel : Nat) (listed : Array Bool) (a : Act) (w : World),
      (∀ j oj, ops[j]? = some oj → j ≠ i → listed.getD j true = false → (∀ e ∈ oj.after, Region.binds md e = true → e.on ≠ i) → oi.apart ops oj = true) →
      i ∈ Region.ready md ops listed → YieldsIf P ops S oi v a → S w →
      wpAnyJ P md ops Q S m fuel (listed.setIfInBounds i true) (a.put oi.dst v) w → wpAnyJ P md ops Q S m (fuel + 1) listed a w := by
  intro fuel
  induction fuel with
  | zero =>
    intro listed a w _ hr hy hS H
    refine ⟨fun h => (by rw [h] at hr; cases hr), fun j hj => ?_⟩
    by_cases hji : j = i
    · subst hji; exact hy.wpOp hi hS ⟨fun _ => hS, H⟩
    · have := ready_mono hj hji
      rw [H.1] at this
      cases this
  | succ fuel ih =>
    intro listed a w hfree hr hy hS H
    refine ⟨fun h => (by rw [h] at hr; cases hr), fun j hj => ?_⟩
    by_cases hji : j = i
    · subst hji; exact hy.wpOp hi hS ⟨fun _ => hS, H⟩
    · have h1 := H.2 j (ready_mono hj hji)
      obtain ⟨hjun, oj, hoj, hall⟩ := mem_ready.1 hj
      have hnot : ∀ e ∈ oj.after, Region.binds md e = true → e.on ≠ i := fun e he hb heq => by
        have h1 := hall e he hb
        have h0 := (mem_ready.1 hr).1
        rw [heq] at h1
        rcases Nat.lt_or_ge i listed.size with h' | h'
        · simp [h'] at h0 h1; rw [h0] at h1; cases h1
        · simp [Array.getElem?_eq_none h'] at h1
      have h2 := wpOp_putIf (S := S) hoj (hfree j oj hoj hji hjun hnot) (fun cs b => hsel i oi cs b hi) (fun cs b => hsel j oj cs b hoj) hQ hy h1
      have hfree' : ∀ k ok, ops[k]? = some ok → k ≠ i → (listed.setIfInBounds j true).getD k true = false →
          (∀ e ∈ ok.after, Region.binds md e = true → e.on ≠ i) → oi.apart ops ok = true := fun k ok hk hki hun hno => by
        refine hfree k ok hk hki ?_ hno
        by_cases hjk : j = k
        · subst hjk; exact hjun
        · rw [getD_set_ne true hjk] at hun; exact hun
      have hri : i ∈ Region.ready md ops (listed.setIfInBounds j true) := ready_mono hr (Ne.symm hji)
      refine wpOp_mono (fun a' w' h3 => ?_) h2
      obtain ⟨hy3, hS3, hW3⟩ := h3
      have hjm : j ≠ m := fun e => by
        obtain ⟨om, hom, e2, he2, hb2, hon2⟩ := Region.waitsFor_spec hwm
        rw [← e, hoj] at hom
        injection hom with hom
        subst hom
        exact hnot e2 he2 hb2 hon2
      refine ⟨hS3, ih (listed.setIfInBounds j true) a' w' hfree' hri hy3 (hS3 hjm) ?_⟩
      rw [Array.setIfInBounds_comm _ _ hji]
      exact hW3

/-- take number i first -/
theorem wpAnyJ_take {i : Nat} {oi : Oper} {v : Value} {fuel : Nat} {listed : Array Bool} {a : Act} {w : World} (hi : ops[i]? = some oi) (hwm : Region.waitsFor md ops m i = true)
    (hs : Region.noSelect ops = true) (hf : Region.free md ops listed i = true) (hr : (Region.ready md ops listed).contains i = true)
    (hQ : ∀ c a w, Q (.panic c) (a.put oi.dst v) w → Q (.panic c) a w) (hy : YieldsIf P ops S oi v a) (hS : S w)
    (h : wpAnyJ P md ops Q S m fuel (listed.setIfInBounds i true) (a.put oi.dst v) w) : wpAnyJ P md ops Q S m (fuel + 1) listed a w :=
  wpAnyJ_first hi hwm (Region.noSelect_spec hs) hQ fuel listed a w (Region.free_spec hi hf) (by simpa using hr) hy hS h
/-- number i alone may come up -/
theorem wpAnyJ_one {i : Nat} {oi : Oper} {fuel : Nat} {listed : Array Bool} {a : Act} {w : World} (hi : ops[i]? = some oi) (hr : Region.ready md ops listed = [i])
    (h : ∀ K : Act → World → Prop, (∀ a' w', S w' → wpAnyJ P md ops Q S m fuel (listed.setIfInBounds i true) a' w' → K a' w') → if Region.wanted oi (yielded ops a.tmps) = true then Oper.wp P oi a w K Q else K (a.put oi.dst undef) w) : wpAnyJ P md ops Q S m (fuel + 1) listed a w := by
  refine ⟨fun h0 => (by rw [hr] at h0; cases h0), fun j hj => ?_⟩
  rw [hr, List.mem_singleton] at hj
  subst hj
  exact wpOp_step hi (fun K hK => h K fun a' w' hx hk => hK a' w' ⟨fun _ => hx, hk⟩)
/-- the last one -/
theorem wpAnyJ_last {oi : Oper} {fuel : Nat} {listed : Array Bool} {a : Act} {w : World} (hi : ops[m]? = some oi) (hr : Region.ready md ops listed = [m]) (hr2 : Region.ready md ops (listed.setIfInBounds m true) = [])
    (h : ∀ K : Act → World → Prop, (∀ a' w', Q .normal a' w' → K a' w') → if Region.wanted oi (yielded ops a.tmps) = true then Oper.wp P oi a w K Q else K (a.put oi.dst undef) w) : wpAnyJ P md ops Q S m (fuel + 1) listed a w := by
  refine ⟨fun h0 => (by rw [hr] at h0; cases h0), fun j hj => ?_⟩
  rw [hr, List.mem_singleton] at hj
  subst hj
  refine wpOp_step hi (fun K hK => h K fun a' w' hq => hK a' w' ⟨fun h9 => absurd rfl h9, ?_⟩)
  cases fuel with
  | zero => exact ⟨hr2, hq⟩
  | succ f => exact ⟨fun _ => hq, by rw [hr2]; simp⟩
theorem wp_region_J (m : Nat) (S : World → Prop) {id : Nat} {a : Act} {w : World} (hm : P.follows .mixedOrders = true)
    (h : wpAnyJ P .any ops Q S m ops.size (Array.replicate ops.size false) a w.drew) : (Code.region id ops true).wp P Q a w :=
  wp_region_any hm (wpAny_of_J _ _ _ _ h)
end
end Go.Proofs.YtidchfncfcckiaaGreat

namespace Go.Proofs.YtidchfncfcckiaaGreat
open Go.RowKit

theorem infoInt : (Tryz.prog.info? 3).map (fun i => (i.zero, i.size, i.bytes)) = some (some (.int .i64 0), 1, 8) := by kernel_rfl

theorem ints_cells (w : World) (xs : List Int) (h : ∀ x ∈ xs, I64 x) : OwnCells intO w (xs.map (Value.int .i64)) xs [] := by
  induction xs with
  | nil => exact .nil
  | cons x xs ih => exact ⟨[.int .i64 x], xs.map (Value.int .i64), [], [], rfl, rfl, ⟨⟨rfl, h x (List.mem_cons_self ..)⟩, rfl⟩, ih fun y hy => h y (List.mem_cons_of_mem _ hy)⟩
theorem Sl.i64 {w : World} {v : Value} {xs : List Int} (h : Sl intR w v xs) : ∀ x ∈ xs, I64 x := by
  intro x hx
  obtain ⟨A, cap, rfl, _⟩ := h.form
  obtain ⟨i, hi, rfl⟩ := List.getElem_of_mem hx
  obtain ⟨_, _, _, hb, _⟩ := h.int hi
  exact hb
theorem flat_rep (n : Nat) (z : Value) : (List.replicate n [z]).flatten = List.replicate n z := by
  induction n with
  | zero => rfl
  | succ n ih => simp [List.replicate_succ, ih]

set_option maxHeartbeats 400000 in
theorem toIntS_c (v : Value) (xs : List Int) (w : World) (h : Sl intR w v xs) (hb : xs.length ≤ 1048576) :
    Calls Tryz.prog 72 #[v] w fun e w2 => ∃ v2 F, e = .returned v2 ∧ OwnSl intO w2 v2 xs F ∧ NewF w F ∧ Ext w w2 := by
  obtain ⟨A, cap, rfl, hm⟩ := h.form
  obtain ⟨i0, hi0, hz0, hz1, hz2⟩ := info_parts infoInt
  have hmk := run_mk (P := Tryz.prog) 28 3 i0 _ [.int .i64 0] 8 Tryz.underlying28 hi0 hz0 rfl hz1 hz2 xs.length (by omega) hm
  rw [flat_rep] at hmk
  go_enter Tryz.func72, Tryz.ntmps72
  go_wp2
  go_loopw [4] (fun i wr => ∃ k : Nat, k ≤ xs.length ∧ i = .int .i64 k ∧ Blk wr w.heap.size 3 ((xs.take k).map (Value.int .i64) ++ List.replicate (xs.length - k) (.int .i64 0)) ∧ Ext w wr) (fun i _ => xs.length - (intOf i).toNat)
  case atStart => exact ⟨0, Nat.zero_le _, rfl, by simpa using Blk.new w 3 (Array.replicate xs.length (.int .i64 0)), (Ext.refl _).alloc _⟩
  case round =>
    obtain ⟨k, hk, rfl, hblk, hx⟩ := hrel
    by_cases hlt : k < xs.length
    · obtain ⟨b, off, rfl, hi, hc⟩ := (h.mono hx).int hlt
      have hz : List.replicate (xs.length - k) (Value.int .i64 0) = .int .i64 0 :: List.replicate (xs.length - (k + 1)) (.int .i64 0) := by
        rw [show xs.length - k = (xs.length - (k + 1)) + 1 by omega, List.replicate_succ]
      rw [hz] at hblk
      clear hz
      have hl : ((xs.take k).map (Value.int .i64)).length = k := by simp; omega
      obtain ⟨hcell, hfr⟩ := hblk.at_ hl
      have hst := hblk.store hl (.int .i64 xs[k])
      have HL := hid hl
      clear hl hblk
      go_wp2
      go_roundw
      case rel => exact ⟨k + 1, by omega, by go_num, by rw [List.take_succ_eq_append_getElem hlt, List.map_append]; exact hst, hx.setCell (by simp) _⟩
      case measure => simp [intOf]; omega
    · go_wp2
      go_ret
      rw [show xs.length - k = 0 by omega, List.take_of_length_le (by omega), List.replicate_zero, List.append_nil] at hblk
      exact ⟨_, _, rfl, OwnSl.of_blk hblk (by unfold maxLen; omega) (ints_cells _ _ h.i64), ⟨by simp, by simp⟩, hx⟩

set_option maxHeartbeats 400000 in
theorem eqIntS_c (v u : Value) (xs ys : List Int) (w : World) (h : Sl intR w v xs) (k : Sl intR w u ys) :
    Calls Tryz.prog 74 #[v, u] w fun e w2 => e = .returned (.bool (eqB xs ys)) ∧ Ext w w2 := by
  obtain ⟨A, cap, rfl, hm⟩ := h.form
  obtain ⟨B, cap2, rfl, hm2⟩ := k.form
  by_cases hl : xs.length = ys.length
  · have hl' : ((xs.length : Int) != (ys.length : Int)) = false := by simp [hl]
    have HL := hid hl
    clear hl
    go_enter Tryz.func74, Tryz.ntmps74
    go_wp2
    go_loopw [5] (fun i wr => ∃ k2 : Nat, k2 ≤ xs.length ∧ i = .int .i64 k2 ∧ xs.take k2 = ys.take k2 ∧ Ext w wr) (fun i _ => xs.length - (intOf i).toNat)
    case atStart => exact ⟨0, Nat.zero_le _, rfl, by simp, Ext.refl _⟩
    case round =>
      obtain ⟨k2, hk, rfl, he, hx⟩ := hrel
      have HE := hid he
      clear he
      by_cases hlt : k2 < xs.length
      · have hlt2 : k2 < ys.length := by have := HL.out; omega
        obtain ⟨b, off, rfl, hi, hc⟩ := (h.mono hx).int hlt
        obtain ⟨b2, off2, rfl, hi2, hc2⟩ := (k.mono hx).int hlt2
        have hcz : ∀ z : ExtOf wr, z.1.cell? ⟨b, off + k2, none⟩ = _ := fun z => z.2.cell hc
        have hcz2 : ∀ z : ExtOf wr, z.1.cell? ⟨b2, off2 + k2, none⟩ = _ := fun z => z.2.cell hc2
        by_cases h0 : xs[k2] = ys[k2]
        · have h0' : (xs[k2] != ys[k2]) = false := by simp [h0]
          have H0 := hid h0
          clear h0
          go_wp2_with fail
          refine wp_region_ext (by kernel_rfl) (by kernel_rfl) ?_
          repeat (go_big_quiet_step ((fail)))
          refine wpQuiet_nil ?_
          rintro w1 ⟨⟨_, x1⟩, rfl⟩
          go_wp2
          go_roundw
          case rel => exact ⟨k2 + 1, by omega, by go_num, take_snoc_eq hlt hlt2 H0.out HE.out, hx.trans x1⟩
          case measure => simp [intOf]; omega
        · have h0' : (xs[k2] != ys[k2]) = true := by simp [h0]
          go_wp2_with fail
          refine wp_region_ext (by kernel_rfl) (by kernel_rfl) ?_
          repeat (go_big_quiet_step ((fail)))
          refine wpQuiet_nil ?_
          rintro w1 ⟨⟨_, x1⟩, rfl⟩
          go_wp2
          go_ret
          exact ⟨ret_bool (eqB_false (ne_of_at hlt hlt2 h0)).symm, hx.trans x1⟩
      · go_wp2
        go_ret
        exact ⟨ret_bool (eqB_true (eq_of_take hlt HL.out HE.out)).symm, hx⟩
  · have hl' : ((xs.length : Int) != (ys.length : Int)) = true := by simp; omega
    go_enter Tryz.func74, Tryz.ntmps74
    go_wp2
    go_ret
    exact ⟨ret_bool (eqB_false fun e => hl (by rw [e])).symm, Ext.refl _⟩
end Go.Proofs.YtidchfncfcckiaaGreat

namespace Go.Proofs.YtidchfncfcckiaaGreat
open Go.RowKit

def inB (x a b : Int) : Bool := decide (a ≤ x ∧ x ≤ b)

set_option maxHeartbeats 400000 in
theorem spec_l1In (x a b : Int) (w : World) :
    Calls Tryz.prog 92 #[.int .i64 x, .int .i64 a, .int .i64 b] w fun e w2 => e = .returned (.bool (inB x a b)) ∧ w = w2 := by
  go_enter Tryz.func92, Tryz.ntmps92
  go_wp2
  all_goals go_ret
  all_goals refine ⟨?_, rfl⟩
  all_goals (simp [inB]; try omega)

set_option maxHeartbeats 400000 in
theorem impl_within (x a b : Int) (w : World) :
    Calls Tryz.prog 107 #[.int .i64 x, .int .i64 a, .int .i64 b] w fun e w2 => e = .returned (.bool (inB x a b)) ∧ w = w2 := by
  go_enter Tryz.func107, Tryz.ntmps107
  go_wp2
  all_goals go_ret
  all_goals refine ⟨?_, rfl⟩
  all_goals (simp [inB]; try omega)

end Go.Proofs.YtidchfncfcckiaaGreat

namespace Go.Proofs.YtidchfncfcckiaaGreat
open Go.RowKit

theorem take_split {α : Type} {l c0 c c1 : List α} {off n : Nat} (h : (l.drop off).take n = c0 ++ (c ++ c1)) (hn : off + n ≤ l.length) :
    l = l.take off ++ (c0 ++ (c ++ c1)) ++ l.drop (off + n) ∧ c0.length + c.length + c1.length = n := by
  have h2 : l = l.take off ++ ((l.drop off).take n ++ (l.drop off).drop n) := by rw [List.take_append_drop, List.take_append_drop]
  have h3 := congrArg List.length h
  simp only [List.length_take, List.length_drop, List.length_append] at h3
  refine ⟨?_, by omega⟩
  rw [h, List.drop_drop] at h2
  rw [List.append_assoc]
  exact h2
theorem set_split {α : Type} {l a c0 c c1 d : List α} (h : l = a ++ (c0 ++ (c ++ c1)) ++ d) (j : Nat) (hj : j < c.length) (u : α) :
    l.set (a.length + c0.length + j) u = a ++ (c0 ++ (c.set j u ++ c1)) ++ d := by
  subst h
  rw [List.append_assoc, List.set_append_right _ _ (by omega)]
  rw [show a.length + c0.length + j - a.length = c0.length + j by omega]
  rw [List.append_assoc, List.set_append_right _ _ (by omega), show c0.length + j - c0.length = j by omega]
  rw [List.append_assoc, List.set_append_left _ _ (by omega)]
  simp

section
variable {α : Type} {R : RepO α} {w w2 : World} {cs : List Value} {xs : List α} {F G : List Nat}
theorem OwnCells.join {c0 c c1 : List Value} {i : Nat} {x : α} (hi : i < xs.length) {F0 F1 F2 : List Nat} (h0 : OwnCells R w c0 (xs.take i) F0) (h1 : R.own w c x F1) (h2 : OwnCells R w c1 (xs.drop (i + 1)) F2) :
    OwnCells R w (c0 ++ (c ++ c1)) (xs.set i x) (F0 ++ (F1 ++ F2)) := by
  have e : xs.set i x = xs.take i ++ ([x] ++ xs.drop (i + 1)) := by
    apply List.ext_getElem?
    intro j
    rw [List.getElem?_set]
    by_cases h : i = j
    · subst h
      simp [hi, List.getElem?_append_right, Nat.min_eq_left (Nat.le_of_lt hi)]
    · rw [if_neg h]
      by_cases h2 : j < i
      · rw [List.getElem?_append_left (by simp; omega)]
        simp [List.getElem?_take, h2]
      · rw [List.getElem?_append_right (by simp; omega), List.getElem?_append_right (by simp; omega)]
        simp only [List.length_take, List.length_singleton, List.getElem?_drop]
        congr 1
        omega
  rw [e]
  exact h0.append ((OwnCells.one h1).append h2)
end

section
variable {α : Type} {R : RepO α} {w : World} {v : Value} {xs : List α} {F : List Nat}
/-- element i: where it lies; what it owns; what stands behind a change inside it, and behind a store of one of its cells -/
theorem OwnSl.elem (h : OwnSl R w v xs F) (hN : F.Nodup) {i : Nat} (hi : i < xs.length) : ∃ g off cap c F1, v = .slice (some ⟨g, off, none⟩) xs.length cap ∧ g ∈ F ∧ (∀ b ∈ F1, b ∈ F) ∧ g ∉ F1 ∧ F1.Nodup ∧
    R.own w c xs[i] F1 ∧ c.length = R.n ∧ (∀ j, j < R.n → w.cell? ⟨g, off + i * R.n + j, none⟩ = c[j]?) ∧ (∀ o, w.frozen? ⟨g, o, none⟩ = false) ∧
    (∀ w2 x', (∀ b ∈ F, b ∉ F1 → w2.heap[b]? = w.heap[b]?) → R.own w2 c x' F1 → OwnSl R w2 v (xs.set i x') F) ∧
    (∀ j u x', j < R.n → R.own (w.setCell ⟨g, off + i * R.n + j, none⟩ u) (c.set j u) x' F1 → OwnSl R (w.setCell ⟨g, off + i * R.n + j, none⟩ u) v (xs.set i x') F) := by
  rcases h with ⟨rfl, _⟩ | ⟨g, off, cap, cur, e, F2, rfl, hm, hg, rfl, hs, hc⟩
  · simp at hi
  · obtain ⟨c0, c, c1, G0, G1, G2, e0, rfl, l0, l1, k0, k1, k2⟩ := hc.split i hi
    have hd := List.nodup_cons.1 hN
    have hgm : ∀ b, b ∈ G0 ++ (G1 ++ G2) → b ≠ g := fun b hb e => hd.1 (e ▸ hb)
    have hn2 := List.nodup_append.1 hd.2
    have hn3 := List.nodup_append.1 hn2.2.1
    have hlt : i * R.n + R.n ≤ xs.length * R.n := by rw [← Nat.succ_mul]; exact Nat.mul_le_mul_right _ hi
    have hs' : off + xs.length * R.n ≤ cur.toList.length := by simpa using hs
    obtain ⟨hcur, hlen⟩ := take_split e0 hs'
    have hoff : (cur.toList.take off).length = off := by rw [List.length_take]; omega
    refine ⟨g, off, cap, c, G1, rfl, List.mem_cons_self .., fun b hb => List.mem_cons_of_mem _ (List.mem_append_right _ (List.mem_append_left _ hb)), fun hb => hgm g (List.mem_append_right _ (List.mem_append_left _ hb)) rfl, hn3.1, k1, l1,
      fun j hj => ?_, fun o => frozen_of_row w g o cur e hg, fun w2 x' hk ho => ?_, fun j u x' hj ho => ?_⟩
    · rw [cell_of_row w g _ cur e (0, 0) hg, ← Array.getElem?_toList, hcur, List.append_assoc, List.getElem?_append_right (by omega), List.append_assoc, List.getElem?_append_right (by omega), List.append_assoc,
        List.getElem?_append_left (by omega)]
      congr 1
      omega
    · refine .inr ⟨g, off, cap, cur, e, G0 ++ (G1 ++ G2), by rw [List.length_set], by rw [List.length_set]; exact hm, ?_, rfl, by rw [List.length_set]; exact hs, ?_⟩
      · exact (hk g (List.mem_cons_self ..) fun hb => hgm g (List.mem_append_right _ (List.mem_append_left _ hb)) rfl).trans hg
      · rw [List.length_set, e0]
        refine OwnCells.join hi (k0.keep fun b hb => ?_) ho (k2.keep fun b hb => ?_)
        · exact hk b (List.mem_cons_of_mem _ (List.mem_append_left _ hb)) fun hb2 => hn2.2.2 b hb b (List.mem_append_left _ hb2) rfl
        · exact hk b (List.mem_cons_of_mem _ (List.mem_append_right _ (List.mem_append_right _ hb))) fun hb2 => hn3.2.2 b hb2 b hb rfl
    · have hset := set_split hcur j (by omega) u
      rw [hoff, l0] at hset
      have hh : (w.setCell ⟨g, off + i * R.n + j, none⟩ u).heap[g]? = some (.cells (cur.toList.set (off + i * R.n + j) u).toArray e (0, 0)) := by
        rw [heap_setCell_same w g _ cur e u hg]
        congr 2
        apply Array.ext'
        simp
      refine .inr ⟨g, off, cap, _, e, G0 ++ (G1 ++ G2), by rw [List.length_set], by rw [List.length_set]; exact hm, hh, rfl, by rw [List.length_set]; simpa using hs, ?_⟩
      have hk : ∀ b, b ≠ g → (w.setCell ⟨g, off + i * R.n + j, none⟩ u).heap[b]? = w.heap[b]? := fun b hb => keep_setCell hb
      have e1 : ((cur.toList.set (off + i * R.n + j) u).toArray.toList.drop off).take ((xs.set i x').length * R.n) = c0 ++ (c.set j u ++ c1) := by
        rw [List.length_set, hset, List.append_assoc, List.drop_append_of_le_length (by omega)]
        rw [List.drop_of_length_le (by omega), List.nil_append]
        rw [List.take_append_of_le_length (by simp; omega), List.take_of_length_le (by simp; omega)]
      rw [e1]
      refine OwnCells.join hi (k0.keep fun b hb => hk b (hgm b (List.mem_append_left _ hb))) ho (k2.keep fun b hb => hk b (hgm b (List.mem_append_right _ (List.mem_append_right _ hb))))
end

/-- a store of an int -/
theorem OwnSl.int_store {w : World} {v : Value} {xs : List Int} {F : List Nat} (h : OwnSl intO w v xs F) (hN : F.Nodup) {i : Nat} (hi : i < xs.length) : ∃ g off cap, v = .slice (some ⟨g, off, none⟩) xs.length cap ∧ g ∈ F ∧
    w.cell? ⟨g, off + i, none⟩ = some (.int .i64 xs[i]) ∧ w.frozen? ⟨g, off + i, none⟩ = false ∧ ∀ x, I64 x → OwnSl intO (w.setCell ⟨g, off + i, none⟩ (.int .i64 x)) v (xs.set i x) F := by
  obtain ⟨g, off, cap, c, F1, rfl, hg, _, _, _, ⟨⟨rfl, _⟩, rfl⟩, _, hc, hf, _, hst⟩ := h.elem hN hi
  have h1 : intO.n = 1 := rfl
  refine ⟨g, off, cap, rfl, hg, ?_, hf _, fun x hx => ?_⟩
  · simpa [h1] using hc 0 (by omega)
  · have := hst 0 (.int .i64 x) x (by omega) ⟨⟨rfl, hx⟩, rfl⟩
    simpa [h1] using this
/-- a table of ints: a store -/
theorem OwnSl.ints_store {w : World} {v : Value} {rows : List (List Int)} {F : List Nat} (h : OwnSl (slO intO) w v rows F) (hN : F.Nodup) {i s : Nat} (hi : i < rows.length) (hs : s < rows[i].length) :
    ∃ g off cap b o2 cap2, v = .slice (some ⟨g, off, none⟩) rows.length cap ∧ w.cell? ⟨g, off + i, none⟩ = some (.slice (some ⟨b, o2, none⟩) rows[i].length cap2) ∧ b ∈ F ∧ g ≠ b ∧
      w.cell? ⟨b, o2 + s, none⟩ = some (.int .i64 rows[i][s]) ∧ w.frozen? ⟨b, o2 + s, none⟩ = false ∧
      ∀ x, I64 x → OwnSl (slO intO) (w.setCell ⟨b, o2 + s, none⟩ (.int .i64 x)) v (rows.set i (rows[i].set s x)) F := by
  obtain ⟨g, off, cap, c, F1, rfl, hg, hsub, hng, hN1, ⟨u, rfl, ho⟩, _, hc, hf, hin, _⟩ := h.elem hN hi
  obtain ⟨b, o2, cap2, rfl, hb, hcell, hfr, hst⟩ := ho.int_store hN1 hs
  have h1 : (slO intO).n = 1 := rfl
  refine ⟨g, off, cap, b, o2, cap2, rfl, ?_, hsub b hb, fun e => hng (e ▸ hb), hcell, hfr, fun x hx => ?_⟩
  · simpa [h1] using hc 0 (by omega)
  · refine hin _ _ (fun k _ hk => keep_setCell fun e => hk (e ▸ hb)) ⟨_, rfl, hst x hx⟩
end Go.Proofs.YtidchfncfcckiaaGreat

namespace Go.Proofs.YtidchfncfcckiaaGreat
open Go.RowKit

theorem Blk.setAt {w : World} {g : Nat} {e : TypeId} {cs : List Value} (h : Blk w g e cs) (i : Nat) (hi : i < cs.length) (u : Value) : Blk (w.setCell ⟨g, i, none⟩ u) g e (cs.set i u) := by
  have h1 : cs = cs.take i ++ cs[i] :: cs.drop (i + 1) := by rw [← List.drop_eq_getElem_cons hi, List.take_append_drop]
  have h2 : cs.set i u = (cs.take i ++ [u]) ++ cs.drop (i + 1) := by
    rw [List.set_eq_take_append_cons_drop, if_pos hi]; simp
  rw [h2]
  exact Blk.store (done := cs.take i) (z := cs[i]) (by rw [← h1]; exact h) (by simp; omega) u
/-- a struct of four cells, stored cell by cell -/
theorem Blk.store4 {w : World} {g : Nat} {e : TypeId} {a b c d : Value} (h : Blk w g e [a, b, c, d]) (x y z u : Value) :
    (w.cell? ⟨g, 0, none⟩ = some a ∧ w.frozen? ⟨g, 0, none⟩ = false) ∧ ((w.setCell ⟨g, 0, none⟩ x).cell? ⟨g, 1, none⟩ = some b ∧ (w.setCell ⟨g, 0, none⟩ x).frozen? ⟨g, 1, none⟩ = false) ∧
    (((w.setCell ⟨g, 0, none⟩ x).setCell ⟨g, 1, none⟩ y).cell? ⟨g, 2, none⟩ = some c ∧ ((w.setCell ⟨g, 0, none⟩ x).setCell ⟨g, 1, none⟩ y).frozen? ⟨g, 2, none⟩ = false) ∧
    ((((w.setCell ⟨g, 0, none⟩ x).setCell ⟨g, 1, none⟩ y).setCell ⟨g, 2, none⟩ z).cell? ⟨g, 3, none⟩ = some d ∧ (((w.setCell ⟨g, 0, none⟩ x).setCell ⟨g, 1, none⟩ y).setCell ⟨g, 2, none⟩ z).frozen? ⟨g, 3, none⟩ = false) ∧
    Blk ((((w.setCell ⟨g, 0, none⟩ x).setCell ⟨g, 1, none⟩ y).setCell ⟨g, 2, none⟩ z).setCell ⟨g, 3, none⟩ u) g e [x, y, z, u] := by
  have b1 := Blk.store (done := []) h rfl x
  have b2 := Blk.store (done := [x]) b1 rfl y
  have b3 := Blk.store (done := [x, y]) b2 rfl z
  exact ⟨Blk.at_ (done := []) h rfl, Blk.at_ (done := [x]) b1 rfl, Blk.at_ (done := [x, y]) b2 rfl, Blk.at_ (done := [x, y, z]) b3 rfl, Blk.store (done := [x, y, z]) b3 rfl u⟩
section
variable {w : World} {g : Nat} {e : TypeId} {a b c d : Value}
theorem Blk.c4 (h : Blk w g e [a, b, c, d]) : (w.cell? ⟨g, 0, none⟩ = some a ∧ w.cell? ⟨g, 1, none⟩ = some b ∧ w.cell? ⟨g, 2, none⟩ = some c ∧ w.cell? ⟨g, 3, none⟩ = some d) ∧ ∀ i, w.frozen? ⟨g, i, none⟩ = false :=
  ⟨⟨h.cells.1 0, h.cells.1 1, h.cells.1 2, h.cells.1 3⟩, h.cells.2⟩
theorem Blk.set0 (h : Blk w g e [a, b, c, d]) (u : Value) : Blk (w.setCell ⟨g, 0, none⟩ u) g e [u, b, c, d] := Blk.store (done := []) h rfl u
theorem Blk.set1 (h : Blk w g e [a, b, c, d]) (u : Value) : Blk (w.setCell ⟨g, 1, none⟩ u) g e [a, u, c, d] := Blk.store (done := [a]) h rfl u
theorem Blk.set2 (h : Blk w g e [a, b, c, d]) (u : Value) : Blk (w.setCell ⟨g, 2, none⟩ u) g e [a, b, u, d] := Blk.store (done := [a, b]) h rfl u
theorem Blk.set3 (h : Blk w g e [a, b, c, d]) (u : Value) : Blk (w.setCell ⟨g, 3, none⟩ u) g e [a, b, c, u] := Blk.store (done := [a, b, c]) h rfl u
theorem Blk.other {cs : List Value} {g2 i : Nat} {u : Value} (h : Blk w g e cs) (hne : g ≠ g2) : Blk (w.setCell ⟨g2, i, none⟩ u) g e cs := h.keep (keep_setCell hne)
end
end Go.Proofs.YtidchfncfcckiaaGreat

namespace Go.Proofs.YtidchfncfcckiaaGreat
open Go.RowKit

theorem nat_i64 (a : Nat) (h : a < 2 ^ 63) : (BitVec.ofInt 64 (a : Int)).toNat = a := by
  rw [BitVec.ofInt_natCast, BitVec.toNat_ofNat]
  exact Nat.mod_eq_of_lt (Nat.lt_trans h (by decide))
theorem wrap_nat (x : Nat) (h : x < 2 ^ 63) : IntKind.i64.wrap (x : Int) = (x : Int) := by
  rw [IntKind.wrap_i64]
  have : x < 9223372036854775808 := h
  omega
theorem or_nat {a b : Nat} (ha : a < 2 ^ 63) (hb : b < 2 ^ 63) : bits .or .i64 (a : Int) (b : Int) = ((a ||| b : Nat) : Int) := by
  have e : bits .or .i64 (a : Int) (b : Int) = IntKind.i64.wrap (((BitVec.ofInt 64 (a : Int)) ||| (BitVec.ofInt 64 (b : Int))).toNat : Int) := rfl
  rw [e, BitVec.toNat_or, nat_i64 a ha, nat_i64 b hb, wrap_nat _ (Nat.or_lt_two_pow ha hb)]
theorem and_one {a : Nat} (ha : a < 2 ^ 63) : bits .and .i64 (a : Int) 1 = ((a % 2 : Nat) : Int) := by
  have e : bits .and .i64 (a : Int) 1 = IntKind.i64.wrap (((BitVec.ofInt 64 (a : Int)) &&& (BitVec.ofInt 64 ((1 : Nat) : Int))).toNat : Int) := rfl
  rw [e, BitVec.toNat_and, nat_i64 a ha, nat_i64 1 (by decide), Nat.and_one_is_mod]
  exact wrap_nat _ (by omega)
/-- 's >> c & 1 == 0' -/
theorem bit_test {s c : Nat} (hs : s < 2 ^ 63) : (bits .and .i64 ((s : Int) / 2 ^ c) 1 == 0) = !s.testBit c := by
  have e : ((s : Int) / 2 ^ c) = ((s / 2 ^ c : Nat) : Int) := by rw [Int.natCast_ediv, Int.natCast_pow]; rfl
  have h : s / 2 ^ c ≤ s := Nat.div_le_self _ _
  rw [e, and_one (Nat.lt_of_le_of_lt h hs), Nat.testBit_eq_decide_div_mod_eq]
  have : s / 2 ^ c % 2 = 0 ∨ s / 2 ^ c % 2 = 1 := by omega
  rcases this with h | h <;> rw [h] <;> rfl
/-- 's | 1 << c' -/
theorem bit_set {s c : Nat} (hs : s < 2 ^ 63) (hc : c < 63) : bits .or .i64 (s : Int) (2 ^ c) = ((s ||| 1 <<< c : Nat) : Int) := by
  have e : ((2 : Int) ^ c) = ((1 <<< c : Nat) : Int) := by rw [Nat.one_shiftLeft, Int.natCast_pow]; rfl
  rw [e, or_nat hs]
  rw [Nat.one_shiftLeft]
  exact Nat.pow_lt_pow_right (by decide) hc
theorem wrap64_pow {c : Nat} (hc : c < 63) : wrap64 (2 ^ c) = 2 ^ c := by
  have e : ((2 : Int) ^ c) = ((2 ^ c : Nat) : Int) := by rw [Int.natCast_pow]; rfl
  have h : 2 ^ c < 2 ^ 63 := Nat.pow_lt_pow_right (by decide) hc
  have h2 : (2 : Nat) ^ 63 = 9223372036854775808 := by decide
  rw [e]
  generalize (2 : Nat) ^ c = x at h
  unfold wrap64
  omega
theorem bit_setw {s c : Nat} (hs : s < 2 ^ 63) (hc : c < 63) : bits .or .i64 (s : Int) (wrap64 (2 ^ c)) = ((s ||| 1 <<< c : Nat) : Int) := by
  rw [wrap64_pow hc, bit_set hs hc]
theorem bit_set_lt {s c n : Nat} (hs : s < 2 ^ n) (hc : c < n) : s ||| 1 <<< c < 2 ^ n := by
  refine Nat.or_lt_two_pow hs ?_
  rw [Nat.one_shiftLeft]
  exact Nat.pow_lt_pow_right (by decide) hc
end Go.Proofs.YtidchfncfcckiaaGreat

namespace Go.Proofs.YtidchfncfcckiaaGreat
open Go.RowKit

/-- the index of the first that meets p, from k on, else -1 -/
def idxF {α : Type} (p : α → Bool) : Nat → List α → Int
  | _, [] => -1
  | k, x :: xs => if p x then (k : Int) else idxF p (k + 1) xs
theorem idxF_skip {α : Type} (p : α → Bool) (l r : List α) (k : Nat) (h : ∀ x ∈ l, p x = false) : idxF p k (l ++ r) = idxF p (k + l.length) r := by
  induction l generalizing k with
  | nil => simp
  | cons x l ih =>
    simp only [List.cons_append, idxF, h x (List.mem_cons_self ..), Bool.false_eq_true, if_false, List.length_cons]
    rw [ih (k + 1) (fun y hy => h y (List.mem_cons_of_mem _ hy)), show k + 1 + l.length = k + (l.length + 1) by omega]
theorem idxF_at {α : Type} (p : α → Bool) (xs : List α) (k : Nat) (hlt : k < xs.length) (hz : ∀ x ∈ xs.take k, p x = false) (h0 : p xs[k] = true) : idxF p 0 xs = k := by
  have e : xs.take k ++ (xs[k] :: xs.drop (k + 1)) = xs := by simp
  have e2 := idxF_skip p (xs.take k) (xs[k] :: xs.drop (k + 1)) 0 hz
  rw [e] at e2
  rw [e2]
  simp [idxF, h0]; omega
theorem idxF_all {α : Type} (p : α → Bool) (xs : List α) (k : Nat) (hk : ¬ k < xs.length) (hz : ∀ x ∈ xs.take k, p x = false) : idxF p 0 xs = -1 := by
  rw [List.take_of_length_le (by omega)] at hz
  have := idxF_skip p xs [] 0 hz
  rw [List.append_nil] at this
  rw [this]; rfl
theorem idxF_any {α : Type} (p : α → Bool) (xs : List α) (k : Nat) : decide (0 ≤ idxF p k xs) = xs.any p := by
  induction xs generalizing k with
  | nil => simp [idxF]
  | cons x xs ih =>
    simp only [idxF, List.any_cons]
    by_cases hp : p x = true
    · simp [hp]
    · simp [hp, ih (k + 1)]
theorem take_snoc_all {α : Type} (p : α → Prop) (xs : List α) (k : Nat) (hlt : k < xs.length) (hz : ∀ x ∈ xs.take k, p x) (h0 : p xs[k]) : ∀ x ∈ xs.take (k + 1), p x := by
  intro x hx
  rw [List.take_succ_eq_append_getElem hlt] at hx
  rcases List.mem_append.1 hx with hx | hx
  · exact hz x hx
  · simp only [List.mem_singleton] at hx; rw [hx]; exact h0

end Go.Proofs.YtidchfncfcckiaaGreat

namespace Go.Proofs.YtidchfncfcckiaaGreat
open Go.RowKit

/-- all stands but the blocks F -/
structure Chg (F : List Nat) (w w2 : World) : Prop where
  os : w2.os = w.os
  tape : w2.tape = w.tape
  output : w2.output = w.output
  size : w.heap.size ≤ w2.heap.size
  block : ∀ b, b < w.heap.size → b ∉ F → w2.heap[b]? = w.heap[b]?
theorem Chg.refl (F : List Nat) (w : World) : Chg F w w := ⟨rfl, rfl, rfl, Nat.le_refl _, fun _ _ _ => rfl⟩
theorem Chg.trans {F : List Nat} {a b c : World} (h : Chg F a b) (k : Chg F b c) : Chg F a c :=
  ⟨k.os.trans h.os, k.tape.trans h.tape, k.output.trans h.output, Nat.le_trans h.size k.size, fun i hi hn => (k.block i (Nat.lt_of_lt_of_le hi h.size) hn).trans (h.block i hi hn)⟩
theorem Chg.mono {F G : List Nat} {a b : World} (h : Chg F a b) (hs : ∀ x ∈ F, x ∈ G) : Chg G a b := ⟨h.os, h.tape, h.output, h.size, fun i hi hn => h.block i hi fun hm => hn (hs i hm)⟩
theorem Chg.of_ext {F : List Nat} {a b : World} (h : Ext a b) : Chg F a b := ⟨h.os, h.tape, h.output, h.size, fun _ hi _ => h.block hi⟩
theorem Chg.setCell {F : List Nat} {a b : World} (h : Chg F a b) {p : Addr} (hp : p.block ∈ F) (u : Value) : Chg F a (b.setCell p u) := by
  have hs := World.size_setCell b p u
  refine ⟨h.os, h.tape, h.output, by rw [hs]; exact h.size, fun i hi hn => ?_⟩
  have hne : i ≠ p.block := fun e => hn (by rw [e]; exact hp)
  rw [keep_setCell hne]
  exact h.block i hi hn
/-- what is new since w0 alone was written -/
theorem Chg.ext {F : List Nat} {w0 a b : World} (h : Chg F a b) (hF : ∀ x ∈ F, w0.heap.size ≤ x) (x : Ext w0 a) : Ext w0 b :=
  ⟨h.os.trans x.os, h.tape.trans x.tape, h.output.trans x.output, Nat.le_trans x.size h.size, fun k hk => (h.block k (Nat.lt_of_lt_of_le hk x.size) fun hm => by have := hF k hm; omega).trans (x.block hk)⟩
/-- two sets of blocks -/
def Dis (F G : List Nat) : Prop := ∀ b ∈ F, b ∉ G
theorem Dis.symm {F G : List Nat} (h : Dis F G) : Dis G F := fun b hb hf => h b hf hb
theorem Dis.new {w : World} {F G : List Nat} (hF : ∀ b ∈ F, b < w.heap.size) (hG : NewF w G) : Dis F G := fun b hb hg => by
  have := hF b hb
  have := hG.2 b hg
  omega
theorem Chg.keep {α : Type} {R : RepO α} {w w2 : World} {cs : List Value} {x : α} {F G : List Nat} (h : Chg G w w2) (d : Dis F G) (o : R.own w cs x F) : R.own w2 cs x F :=
  R.own_keep (fun b hb => h.block b (R.own_lt o b hb) (d b hb)) o
theorem Chg.keepSl {α : Type} {R : RepO α} {w w2 : World} {v : Value} {xs : List α} {F G : List Nat} (h : Chg G w w2) (d : Dis F G) (o : OwnSl R w v xs F) : OwnSl R w2 v xs F :=
  o.keep fun b hb => h.block b (o.lt b hb) (d b hb)

/-- how many numbers a value takes when it is marked; what it is then -/
structure Mk (α : Type) where
  cnt : α → Nat
  is : Int → α → α → Prop
def intMk : Mk Int := ⟨fun _ => 1, fun k _ y => y = k⟩
def Mk.sum {α : Type} (M : Mk α) (xs : List α) : Nat := (xs.map M.cnt).sum
def lstMk {α : Type} (M : Mk α) : Mk (List α) := ⟨M.sum, fun k xs ys => ys.length = xs.length ∧ ∀ (j : Nat) (h : j < xs.length) (h2 : j < ys.length), M.is (k + (M.sum (xs.take j) : Nat)) xs[j] ys[j]⟩
theorem Mk.sum_step {α : Type} (M : Mk α) (xs : List α) (i : Nat) (h : i < xs.length) : M.sum (xs.take (i + 1)) = M.sum (xs.take i) + M.cnt xs[i] := by
  rw [List.take_succ_eq_append_getElem h]; unfold Mk.sum; rw [List.map_append, List.sum_append]; simp
theorem Mk.sum_le {α : Type} (M : Mk α) (xs : List α) (i : Nat) : M.sum (xs.take i) ≤ M.sum xs := by
  have h := List.take_append_drop i xs
  have : M.sum xs = M.sum (xs.take i) + M.sum (xs.drop i) := by
    unfold Mk.sum; rw [← List.sum_append, ← List.map_append, h]
  omega
theorem Mk.sum_at {α : Type} (M : Mk α) (xs : List α) (i : Nat) (h : i < xs.length) : M.sum (xs.take i) + M.cnt xs[i] ≤ M.sum xs := by
  rw [← M.sum_step xs i h]; exact M.sum_le _ _
theorem Mk.sum_all {α : Type} (M : Mk α) (xs : List α) (i : Nat) (h : ¬ i < xs.length) : M.sum (xs.take i) = M.sum xs := by rw [List.take_of_length_le (by omega)]
theorem intMk_sum (xs : List Int) : intMk.sum xs = xs.length := by
  unfold Mk.sum intMk
  induction xs with
  | nil => rfl
  | cons x xs ih => simp only [List.map_cons, List.sum_cons, List.length_cons, ih]; omega

/-- the first i are marked, the rest is as it was -/
structure Part {α : Type} (M : Mk α) (k : Int) (xs ys : List α) (i : Nat) : Prop where
  len : ys.length = xs.length
  done : ∀ (j : Nat) (h : j < xs.length) (h2 : j < ys.length), j < i → M.is (k + (M.sum (xs.take j) : Nat)) xs[j] ys[j]
  rest : ∀ (j : Nat) (h : j < xs.length) (h2 : j < ys.length), i ≤ j → ys[j] = xs[j]
theorem Part.zero {α : Type} (M : Mk α) (k : Int) (xs : List α) : Part M k xs xs 0 := ⟨rfl, fun _ _ _ h => by omega, fun _ _ _ _ => rfl⟩
theorem Part.all {α : Type} {M : Mk α} {k : Int} {xs ys : List α} {i : Nat} (h : Part M k xs ys i) (hi : ¬ i < xs.length) : (lstMk M).is k xs ys := ⟨h.len, fun j hj h2 => h.done j hj h2 (by omega)⟩
theorem Part.at_ {α : Type} {M : Mk α} {k : Int} {xs ys : List α} {i : Nat} (h : Part M k xs ys i) (hi : i < xs.length) : ∃ hy : i < ys.length, ys[i] = xs[i] :=
  ⟨by have := h.len; omega, h.rest i hi _ (Nat.le_refl _)⟩
theorem Part.step {α : Type} {M : Mk α} {k : Int} {xs ys : List α} {i : Nat} (h : Part M k xs ys i) (hi : i < xs.length) {y : α} (hy : M.is (k + (M.sum (xs.take i) : Nat)) xs[i] y) : Part M k xs (ys.set i y) (i + 1) := by
  refine ⟨by rw [List.length_set]; exact h.len, fun j hj h2 hlt => ?_, fun j hj h2 hge => ?_⟩
  · rw [List.getElem_set]
    by_cases e : i = j
    · subst e; rw [if_pos rfl]; exact hy
    · rw [if_neg e]; exact h.done j hj _ (by omega)
  · rw [List.getElem_set, if_neg (by omega)]
    exact h.rest j hj _ (by omega)
end Go.Proofs.YtidchfncfcckiaaGreat

namespace Go.Proofs.YtidchfncfcckiaaGreat
open Go.RowKit

/-- what is left of a measure: -1 where it does not fit -/
def szv (n left : Int) : Int := if left < n then -1 else left - n
def Small (x : Int) : Prop := -1 ≤ x ∧ x ≤ 1048576
theorem szv_neg {n left : Int} (h : left < n) : szv n left = -1 := by unfold szv; rw [if_pos h]
theorem szv_nn {n left : Int} (h : ¬ left < n) : 0 ≤ szv n left := by unfold szv; rw [if_neg h]; omega
theorem szv_le {n left : Int} (h : 0 ≤ n) (h0 : 0 ≤ left) : szv n left ≤ left := by unfold szv; split <;> omega
theorem szv_small {n left : Int} (h : 0 ≤ n) (hl : Small left) : Small (szv n left) := by unfold Small szv at *; split <;> omega

set_option maxHeartbeats 400000 in
theorem szIntS_c (v : Value) (xs : List Int) (left : Int) (w : World) (h : Sl intR w v xs) (h0 : 0 ≤ left) (h1 : left ≤ 1048576) :
    Calls Tryz.prog 71 #[v, .int .i64 left] w fun e w2 => e = .returned (.int .i64 (szv xs.length left)) ∧ w = w2 := by
  obtain ⟨A, cap, rfl, hm⟩ := h.form
  by_cases hlt : left < xs.length
  · go_enter Tryz.func71, Tryz.ntmps71
    go_wp2
    go_ret
    exact ⟨ret_int (by unfold szv; rw [if_pos (by omega)]), rfl⟩
  · go_enter Tryz.func71, Tryz.ntmps71
    go_wp2
    go_ret
    exact ⟨ret_int (by unfold szv; rw [if_neg (by omega)]), rfl⟩

def sumLen {α : Type} (xs : List (List α)) : Nat := (xs.map List.length).sum
theorem sumLen_take {α : Type} (xs : List (List α)) (k : Nat) (h : k < xs.length) : sumLen (xs.take (k + 1)) = sumLen (xs.take k) + xs[k].length := by
  rw [List.take_succ_eq_append_getElem h]; unfold sumLen; rw [List.map_append, List.sum_append]; simp
theorem sumLen_le {α : Type} (xs : List (List α)) (k : Nat) : sumLen (xs.take k) ≤ sumLen xs := by
  have h := List.take_append_drop k xs
  have : sumLen xs = sumLen (xs.take k) + sumLen (xs.drop k) := by
    unfold sumLen; rw [← List.sum_append, ← List.map_append, h]
  omega
theorem sumLen_at {α : Type} (xs : List (List α)) (k : Nat) (h : k < xs.length) : sumLen (xs.take k) + xs[k].length ≤ sumLen xs := by
  rw [← sumLen_take xs k h]; exact sumLen_le _ _

set_option maxHeartbeats 400000 in
theorem szIntSS_c (v : Value) (xs : List (List Int)) (left : Int) (w : World) (h : Sl (slR intR) w v xs) (h0 : 0 ≤ left) (h1 : left ≤ 1048576) :
    Calls Tryz.prog 18 #[v, .int .i64 left] w fun e w2 => e = .returned (.int .i64 (szv ((xs.length + sumLen xs : Nat) : Int) left)) ∧ Ext w w2 := by
  obtain ⟨A, cap, rfl, hm⟩ := h.form
  by_cases hlt : left < xs.length
  · go_enter Tryz.func18, Tryz.ntmps18
    go_wp2
    go_ret
    exact ⟨ret_int (by symm; unfold szv; rw [if_pos (by omega)]), Ext.refl _⟩
  · go_enter Tryz.func18, Tryz.ntmps18
    go_wp2
    go_loopw [1, 5] (fun l i wr => ∃ k : Nat, k ≤ xs.length ∧ i = .int .i64 k ∧ sumLen (xs.take k) + xs.length ≤ left ∧ l = .int .i64 (left - xs.length - (sumLen (xs.take k) : Nat)) ∧ Ext w wr) (fun _ i _ => xs.length - (intOf i).toNat)
    case atStart => exact ⟨0, Nat.zero_le _, rfl, by simp [sumLen]; omega, by simp [sumLen], Ext.refl _⟩
    case round =>
      obtain ⟨k, hk, rfl, hs, rfl, hx⟩ := hrel
      by_cases hlk : k < xs.length
      · obtain ⟨b, off, A2, cap2, rfl, hsl, hc⟩ := (h.mono hx).sl hlk
        have hst := sumLen_take xs k hlk
        have hsa := sumLen_at xs k hlk
        have HS := hid hst
        clear hst
        go_wp2_with fail
        refine (szIntS_c _ xs[k] _ _ hsl (by omega) (by omega)).mono ?_
        rintro e w2 ⟨rfl, rfl⟩
        by_cases hfit : left - xs.length - (sumLen (xs.take k) : Nat) < xs[k].length
        · rw [show szv (xs[k].length : Int) (left - xs.length - (sumLen (xs.take k) : Nat)) = -1 by simp [szv, hfit]]
          go_wp2
          go_ret
          exact ⟨ret_int (by symm; unfold szv; rw [if_pos (by omega)]), hx⟩
        · rw [show szv (xs[k].length : Int) (left - xs.length - (sumLen (xs.take k) : Nat)) = left - xs.length - (sumLen (xs.take k) : Nat) - xs[k].length by simp [szv, hfit]]
          go_wp2
          go_roundw
          case rel => exact ⟨k + 1, by omega, by go_num, by rw [HS.out]; omega, by rw [HS.out]; congr 1; omega, hx⟩
          case measure => simp [intOf]; omega
      · go_wp2
        go_ret
        rw [List.take_of_length_le (by omega)] at hs
        exact ⟨ret_int (by rw [List.take_of_length_le (by omega)]; unfold szv; rw [if_neg (by omega)]; omega), hx⟩

theorem infoInts : (Tryz.prog.info? 28).map (fun i => (i.zero, i.size, i.bytes)) = some (some (.slice none 0 0), 1, 24) := by kernel_rfl

set_option maxHeartbeats 400000 in
theorem toIntSS_c (v : Value) (xs : List (List Int)) (w : World) (h : Sl (slR intR) w v xs) (hb : xs.length + sumLen xs ≤ 1048576) :
    Calls Tryz.prog 20 #[v] w fun e w2 => ∃ v2 F, e = .returned v2 ∧ OwnSl (slO intO) w2 v2 xs F ∧ NewF w F ∧ Ext w w2 := by
  obtain ⟨A, cap, rfl, hm⟩ := h.form
  obtain ⟨i0, hi0, hz0, hz1, hz2⟩ := info_parts infoInts
  have hmk := run_mk (P := Tryz.prog) 24 28 i0 _ [.slice none 0 0] 24 Tryz.underlying24 hi0 hz0 rfl hz1 hz2 xs.length (by omega) hm
  rw [flat_rep] at hmk
  go_enter Tryz.func20, Tryz.ntmps20
  go_wp2
  go_loopw [4] (fun i wr => ∃ (k : Nat) (done : List Value) (F : List Nat), k ≤ xs.length ∧ i = .int .i64 k ∧ Blk wr w.heap.size 28 (done ++ List.replicate (xs.length - k) (.slice none 0 0)) ∧
    OwnCells (slO intO) wr done (xs.take k) F ∧ FromF w.heap.size F ∧ Ext w wr) (fun i _ => xs.length - (intOf i).toNat)
  case atStart => exact ⟨0, [], [], Nat.zero_le _, rfl, by simpa using Blk.new w 28 (Array.replicate xs.length (.slice none 0 0)), .nil, .nil _, (Ext.refl _).alloc _⟩
  case round =>
    obtain ⟨k, done, F, hk, rfl, hblk, hown, hF, hx⟩ := hrel
    by_cases hlt : k < xs.length
    · obtain ⟨b, off, A2, cap2, rfl, hsl, hc⟩ := (h.mono hx).sl hlt
      have hz : List.replicate (xs.length - k) (Value.slice none 0 0) = .slice none 0 0 :: List.replicate (xs.length - (k + 1)) (.slice none 0 0) := by
        rw [show xs.length - k = (xs.length - (k + 1)) + 1 by omega, List.replicate_succ]
      rw [hz] at hblk
      clear hz
      have hl : done.length = k := by rw [hown.length]; simp [slO, slR]; omega
      have hgl := block_lt hblk.out
      have HL := hid hl
      clear hl
      go_wp2_with fail
      refine (toIntS_c _ xs[k] _ hsl (by have := sumLen_at xs k hlt; omega)).mono ?_
      rintro e w2 ⟨v2, F2, rfl, ho, hn, x2⟩
      have hblk2 := hblk.ext x2
      obtain ⟨hcell, hfr⟩ := hblk2.at_ HL.out
      have hst := hblk2.store HL.out v2
      obtain ⟨A3, cap3, e3, _⟩ := ho.form
      subst e3
      obtain ⟨ho3, hF3⟩ := hown.step (w3 := w2.setCell ⟨w.heap.size, k, none⟩ (.slice A3 xs[k].length cap3)) (R := slO intO) hF x2 ⟨_, rfl, ho⟩ hn hgl (fun b hb => keep_setCell hb)
      clear hblk hblk2 HL
      go_wp2
      go_roundw
      case rel => exact ⟨k + 1, _, _, by omega, by go_num, hst, by rw [List.take_succ_eq_append_getElem hlt]; exact ho3, hF3, (hx.trans x2).setCell (by simp) _⟩
      case measure => simp [intOf]; omega
    · go_wp2
      go_ret
      rw [show xs.length - k = 0 by omega, List.replicate_zero, List.append_nil] at hblk
      rw [List.take_of_length_le (by omega)] at hown
      exact ⟨_, _, rfl, OwnSl.of_blk hblk (by unfold maxLen; omega) hown, hF.new rfl, hx⟩

set_option maxHeartbeats 400000 in
theorem eqIntSS_c (v u : Value) (xs ys : List (List Int)) (w : World) (h : Sl (slR intR) w v xs) (k : Sl (slR intR) w u ys) :
    Calls Tryz.prog 23 #[v, u] w fun e w2 => e = .returned (.bool (eqB xs ys)) ∧ Ext w w2 := by
  obtain ⟨A, cap, rfl, hm⟩ := h.form
  obtain ⟨B, cap2, rfl, hm2⟩ := k.form
  by_cases hl : xs.length = ys.length
  · have hl' : ((xs.length : Int) != (ys.length : Int)) = false := by simp [hl]
    have HL := hid hl
    clear hl
    go_enter Tryz.func23, Tryz.ntmps23
    go_wp2
    go_loopw [5] (fun i wr => ∃ k2 : Nat, k2 ≤ xs.length ∧ i = .int .i64 k2 ∧ xs.take k2 = ys.take k2 ∧ Ext w wr) (fun i _ => xs.length - (intOf i).toNat)
    case atStart => exact ⟨0, Nat.zero_le _, rfl, by simp, Ext.refl _⟩
    case round =>
      obtain ⟨k2, hk, rfl, he, hx⟩ := hrel
      have HE := hid he
      clear he
      by_cases hlt : k2 < xs.length
      · have hlt2 : k2 < ys.length := by have := HL.out; omega
        obtain ⟨b, off, A2, cap3, rfl, hi, hc⟩ := (h.mono hx).sl hlt
        obtain ⟨b2, off2, A3, cap4, rfl, hi2, hc2⟩ := (k.mono hx).sl hlt2
        have hcz : ∀ z : ExtOf wr, z.1.cell? ⟨b, off + k2, none⟩ = _ := fun z => z.2.cell hc
        have hcz2 : ∀ z : ExtOf wr, z.1.cell? ⟨b2, off2 + k2, none⟩ = _ := fun z => z.2.cell hc2
        by_cases h0 : xs[k2] = ys[k2]
        · have H0 := hid h0
          clear h0
          go_wp2_with fail
          refine wp_region_ext (by kernel_rfl) (by kernel_rfl) ?_
          repeat (go_big_quiet_step (((go_at_call 74; exact quiet_ext (eqIntS_c _ _ _ _ _ (hi.mono (Subtype.property _)) (hi2.mono (Subtype.property _)))))))
          refine wpQuiet_nil ?_
          rintro w1 ⟨⟨_, x1⟩, rfl⟩
          rw [eqB_true H0.out]
          go_wp2
          go_roundw
          case rel => exact ⟨k2 + 1, by omega, by go_num, take_snoc_eq hlt hlt2 H0.out HE.out, hx.trans x1⟩
          case measure => simp [intOf]; omega
        · have H0 := hid h0
          clear h0
          go_wp2_with fail
          refine wp_region_ext (by kernel_rfl) (by kernel_rfl) ?_
          repeat (go_big_quiet_step (((go_at_call 74; exact quiet_ext (eqIntS_c _ _ _ _ _ (hi.mono (Subtype.property _)) (hi2.mono (Subtype.property _)))))))
          refine wpQuiet_nil ?_
          rintro w1 ⟨⟨_, x1⟩, rfl⟩
          rw [eqB_false H0.out]
          go_wp2
          go_ret
          exact ⟨ret_bool (eqB_false (ne_of_at hlt hlt2 H0.out)).symm, hx.trans x1⟩
      · go_wp2
        go_ret
        exact ⟨ret_bool (eqB_true (eq_of_take hlt HL.out HE.out)).symm, hx⟩
  · have hl' : ((xs.length : Int) != (ys.length : Int)) = true := by simp; omega
    go_enter Tryz.func23, Tryz.ntmps23
    go_wp2
    go_ret
    exact ⟨ret_bool (eqB_false fun e => hl (by rw [e])).symm, Ext.refl _⟩
theorem sumLen_mem {α : Type} {xs : List (List α)} {x : List α} (h : x ∈ xs) : x.length ≤ sumLen xs := by
  obtain ⟨i, hi, rfl⟩ := List.getElem_of_mem h
  have := sumLen_at xs i hi
  omega
end Go.Proofs.YtidchfncfcckiaaGreat

namespace Go.Proofs.YtidchfncfcckiaaGreat
open Go.RowKit

/-- the slice v is the list xs, in a row of its own from base on, ready to grow; its elements own the blocks F -/
def Bld {α : Type} (R : RepO α) (w : World) (base : Nat) (e : TypeId) (v : Value) (xs : List α) (F : List Nat) : Prop :=
  ∃ cs, w.ownsRow base e R.n v xs.length cs ∧ OwnCells R w cs xs F ∧ (∀ g, v.ownBlock = some g → g ∉ F) ∧ F.Nodup ∧ ∀ b ∈ F, base ≤ b

section
variable {α : Type} {R : RepO α} {w w2 : World} {base : Nat} {e : TypeId} {v : Value} {xs : List α} {F : List Nat}
theorem Bld.nil (w : World) (base : Nat) (e : TypeId) : Bld R w base e (.slice none 0 0) ([] : List α) [] :=
  ⟨[], World.ownsRow_nil w base e R.n, .nil, fun _ h => (by cases h), List.nodup_nil, fun _ h => by cases h⟩
theorem Bld.lit (w : World) (hb : base ≤ w.heap.size) (e : TypeId) : Bld R (w.alloc (.cells #[] e)) base e (.slice (some ⟨w.heap.size, 0, none⟩) 0 0) ([] : List α) [] :=
  ⟨[], ⟨by simp, .inr ⟨w.heap.size, 0, #[], rfl, hb, heap_alloc_new w _, Nat.le_refl _, Nat.zero_le _, by simp, by simp⟩⟩, .nil, fun _ _ h => (by cases h), List.nodup_nil, fun _ h => by cases h⟩
theorem Bld.lt (h : Bld R w base e v xs F) : (∀ b ∈ F, b < w.heap.size) ∧ ∀ g, v.ownBlock = some g → g < w.heap.size ∧ base ≤ g := by
  obtain ⟨cs, h1, h2, _⟩ := h
  refine ⟨h2.lt, fun g hg => ?_⟩
  rcases h1.2 with ⟨rfl, _⟩ | ⟨g', cap, cur, rfl, hb, hh, _⟩
  · cases hg
  · injection hg with hg
    subst hg
    exact ⟨block_lt hh, hb⟩
theorem Bld.keep (h : Bld R w base e v xs F) (hk : ∀ b, base ≤ b → b < w.heap.size → w2.heap[b]? = w.heap[b]?) : Bld R w2 base e v xs F := by
  have hl := h.lt
  obtain ⟨cs, h1, h2, h3, h4, h5⟩ := h
  refine ⟨cs, ⟨h1.1, ?_⟩, h2.keep fun b hb => hk b (h5 b hb) (hl.1 b hb), h3, h4, h5⟩
  rcases h1.2 with h | ⟨g', cap, cur, rfl, hb, hh, hr⟩
  · exact .inl h
  · exact .inr ⟨g', cap, cur, rfl, hb, (hk g' hb (block_lt hh)).trans hh, hr⟩
theorem Bld.ext (h : Bld R w base e v xs F) (x : Ext w w2) : Bld R w2 base e v xs F := h.keep fun _ _ hb => x.block hb
theorem Bld.done (h : Bld R w base e v xs F) : ∃ F', OwnSl R w v xs F' ∧ F'.Nodup ∧ ∀ b ∈ F', base ≤ b := by
  obtain ⟨cs, h1, h2, h3, h4, h5⟩ := h
  rcases h1.2 with ⟨rfl, hn⟩ | ⟨g, cap, cur, rfl, hb, hh, hnc, hcm, hcs, htake⟩
  · have : xs = [] := List.eq_nil_of_length_eq_zero hn
    exact ⟨[], .inl ⟨this, rfl, none, 0, rfl, Nat.zero_le _⟩, List.nodup_nil, fun _ h => by cases h⟩
  · refine ⟨g :: F, .inr ⟨g, 0, cap, cur, e, F, rfl, ⟨hnc, hcm⟩, hh, rfl, ?_, by rw [List.drop_zero, htake]; exact h2⟩, List.nodup_cons.2 ⟨h3 g rfl, h4⟩, fun b hb2 => ?_⟩
    · rw [hcs, Nat.zero_add]; exact Nat.mul_le_mul_right _ hnc
    · rcases List.mem_cons.1 hb2 with rfl | hb2
      · exact hb
      · exact h5 b hb2
theorem Bld.sl (h : Bld R w base e v xs F) : Sl R.toRep w v xs := by
  obtain ⟨F', h, _⟩ := h.done
  exact h.sl
/-- the blocks of data made since -/
theorem Bld.fresh (h : Bld R w base e v xs F) {G : List Nat} (hG : NewF w G) (hb : base ≤ w.heap.size) : (∀ b ∈ G, b ∉ F ∧ v.ownBlock ≠ some b) ∧ G.Nodup ∧ ∀ b ∈ G, base ≤ b := by
  refine ⟨fun b hb2 => ⟨fun hb3 => ?_, fun hb3 => ?_⟩, hG.1, fun b hb2 => Nat.le_trans hb (hG.2 b hb2)⟩
  · have := h.lt.1 b hb3
    have := hG.2 b hb2
    omega
  · have := (h.lt.2 b hb3).1
    have := hG.2 b hb2
    omega
theorem fresh_nil : (∀ b ∈ ([] : List Nat), b ∉ F ∧ v.ownBlock ≠ some b) ∧ ([] : List Nat).Nodup ∧ ∀ b ∈ ([] : List Nat), base ≤ b := ⟨fun _ h => (by cases h), List.nodup_nil, fun _ h => by cases h⟩
end

/-- what stands behind an append -/
theorem bld_grown {α : Type} {R : RepO α} {w w' : World} {base : Nat} {e : TypeId} {v v' : Value} {xs : List α} {F G : List Nat} {cs c : List Value} {y : α} (hl : (∀ b ∈ F, b < w.heap.size) ∧ ∀ g, v.ownBlock = some g → g < w.heap.size ∧ base ≤ g)
    (b2 : OwnCells R w cs xs F) (b3 : ∀ g, v.ownBlock = some g → g ∉ F) (b4 : F.Nodup) (b5 : ∀ b ∈ F, base ≤ b) (hy : R.own w c y G) (hG : (∀ b ∈ G, b ∉ F ∧ v.ownBlock ≠ some b) ∧ G.Nodup ∧ ∀ b ∈ G, base ≤ b)
    (hown : w'.ownsRow base e R.n v' (xs.length + 1) (cs ++ c)) (hgr : w.grownBy w' v.ownBlock) (hat : v'.ownBlock = v.ownBlock ∨ v'.ownBlock = some w.heap.size) :
    Bld R w' base e v' (xs ++ [y]) (F ++ G) ∧ ∀ w0 : World, w0.heap.size ≤ base → Ext w0 w → Ext w0 w' := by
  have hk : ∀ b, b < w.heap.size → v.ownBlock ≠ some b → w'.heap[b]? = w.heap[b]? := fun b hb hne => hgr.block b hb (fun e => hne e.symm)
  refine ⟨⟨cs ++ c, by simpa using hown, OwnCells.snoc (b2.keep fun b hb => hk b (hl.1 b hb) fun e => b3 b e hb) (R.own_keep (fun b hb => hk b (R.own_lt hy b hb) (hG.1 b hb).2) hy), fun g hg hm => ?_, ?_, fun b hb => ?_⟩, ?_⟩
  · rcases hat with hat | hat
    · rw [hat] at hg
      rcases List.mem_append.1 hm with hm | hm
      · exact b3 g hg hm
      · exact (hG.1 g hm).2 hg
    · rw [hat] at hg
      injection hg with hg
      subst hg
      rcases List.mem_append.1 hm with hm | hm
      · exact Nat.lt_irrefl _ (hl.1 _ hm)
      · exact Nat.lt_irrefl _ (R.own_lt hy _ hm)
  · exact List.nodup_append.2 ⟨b4, hG.2.1, fun x hx y hy e => (hG.1 y hy).1 (e ▸ hx)⟩
  · rcases List.mem_append.1 hb with hb | hb
    · exact b5 b hb
    · exact hG.2.2 b hb
  · intro w0 h0 hx0
    exact hx0.grown hgr fun g hg => Nat.le_trans h0 (hl.2 g hg).2
/-- 'append(s, x)': one element more -/
theorem wpList_app {P : Program} {α : Type} {R : RepO α} {ops : Array Oper} {rest : List Oper} {o : Oper} {a : Act} {w : World} {Q : Exit → Act → World → Prop} (hgd : o.guard = none) (s x : Operand) (t : TypeId)
    (ho : o.op = .call { callee := .builtin .append, args := #[s, x], argTypes := #[t, t] })
    (base : Nat) (e : TypeId) (i : TypeInfo) (z : Value) (bytes : Nat) (ht : P.underlying t = some (.slice e)) (hi : P.info? e = some i) (hz : i.zero = some z)
    (hsize : i.size = R.n) (hby : i.bytes = bytes) (hzs : z.cells.size = R.n) (hsz : 0 < R.n)
    {v : Value} {xs : List α} {F : List Nat} (hb : Bld R w base e v xs F) (hs : a.eval s = v)
    (ad : Addr) (k : Nat) (hx : a.eval x = .slice (some ad) 1 k) {c : List Value} (hc : ∀ j u, c[j]? = some u → w.cell? (ad.add j) = some u) (h1 : ∀ u ∈ c, u.oneCell' = true) {y : α} {G : List Nat} (hy : R.own w c y G)
    (hG : (∀ b ∈ G, b ∉ F ∧ v.ownBlock ≠ some b) ∧ G.Nodup ∧ ∀ b ∈ G, base ≤ b)
    (h63 : xs.length + 1 ≤ maxLen) (hbytes : (xs.length + 1) * bytes ≤ 140737488355328) (hbase : base ≤ w.heap.size)
    (h : ∀ v' w', Bld R w' base e v' (xs ++ [y]) (F ++ G) → (∀ w0 : World, w0.heap.size ≤ base → Ext w0 w → Ext w0 w') → wpList P ops Q rest (a.put o.dst v') w') :
    wpList P ops Q (o :: rest) a w := by
  have hl := hb.lt
  obtain ⟨cs, b1, b2, b3, b4, b5⟩ := hb
  refine wpList_append_own_at w hgd s x t ho base e i z R.n bytes ht hi hz hsize hby hzs hsz v xs.length cs hs b1 ad 1 k c hx (by rw [R.len (R.own_rd hy), Nat.one_mul]) hc h1 h63 hbytes hbase ?_
  intro v' w' hown hgr _ hat
  obtain ⟨h5, h6⟩ := bld_grown hl b2 b3 b4 b5 hy hG hown hgr hat
  exact h _ _ h5 h6
/-- what is known of an element type -/
structure ElemT (P : Program) (t e : TypeId) (n bytes : Nat) : Prop where
  ht : P.underlying t = some (.slice e)
  info : ∃ i z, P.info? e = some i ∧ i.zero = some z ∧ i.size = n ∧ i.bytes = bytes ∧ z.cells.size = n
/-- 'append(s, x)' as the walk meets it: the element has just been laid in a new block -/
theorem wpList_app1 {P : Program} {α : Type} {R : RepO α} {ops : Array Oper} {rest : List Oper} {o : Oper} {a : Act} {W : World} {Q : Exit → Act → World → Prop} {t e : TypeId} {bytes : Nat} (E : ElemT P t e R.n bytes) (hsz : 0 < R.n)
    (hgd : o.guard = none) (s x : Operand) (ho : o.op = .call { callee := .builtin .append, args := #[s, x], argTypes := #[t, t] })
    {base : Nat} {v : Value} {xs : List α} {F : List Nat} (hb : Bld R W base e v xs F) (hs : a.eval s = v) {c : Array Value} {T : TypeId} (g k : Nat) (hx : a.eval x = .slice (some ⟨g, 0, none⟩) 1 k) (hg : g = W.heap.size)
    (h1 : ∀ u ∈ c.toList, u.oneCell' = true) {y : α} {G : List Nat} (hy : R.own W c.toList y G) (hG : (∀ b ∈ G, b ∉ F ∧ v.ownBlock ≠ some b) ∧ G.Nodup ∧ ∀ b ∈ G, base ≤ b)
    (hbytes : xs.length + 1 ≤ 1099511627776) (hby : bytes ≤ 128) (hbase : base ≤ W.heap.size)
    (h : ∀ v' w', Bld R w' base e v' (xs ++ [y]) (F ++ G) → (∀ w0 : World, w0.heap.size ≤ base → Ext w0 W → Ext w0 w') → wpList P ops Q rest (a.put o.dst v') w') :
    wpList P ops Q (o :: rest) a (W.alloc (.cells c T)) := by
  obtain ⟨ht, i, z, hi, hz, hsize, hby2, hzs⟩ := E
  have x1 : Ext W (W.alloc (.cells c T)) := (Ext.refl W).alloc _
  refine wpList_app hgd s x t ho base e i z bytes ht hi hz hsize hby2 hzs hsz (hb.ext x1) hs ⟨g, 0, none⟩ k hx (fun j u hj => ?_) h1 (R.own_keep (fun b hb => x1.block (R.own_lt hy b hb)) hy) hG
    (by unfold maxLen; omega) (Nat.le_trans (Nat.mul_le_mul hbytes hby) (by decide)) (Nat.le_trans hbase x1.size) fun v' w' h2 h3 => h v' w' h2 fun w0 h4 h5 => h3 w0 h4 (h5.trans x1)
  subst hg
  have : (W.alloc (.cells c T)).cell? ⟨W.heap.size, j, none⟩ = c[j]? := ((Ext.refl (W.alloc (.cells c T))).box).1 j
  rw [add_eq, Nat.zero_add, this]
  simpa using hj
/-- the same; other blocks of the run's own stand -/
theorem wpList_app1k {P : Program} {α : Type} {R : RepO α} {ops : Array Oper} {rest : List Oper} {o : Oper} {a : Act} {W : World} {Q : Exit → Act → World → Prop} {t e : TypeId} {bytes : Nat} (E : ElemT P t e R.n bytes) (hsz : 0 < R.n)
    (hgd : o.guard = none) (s x : Operand) (ho : o.op = .call { callee := .builtin .append, args := #[s, x], argTypes := #[t, t] })
    {base : Nat} {v : Value} {xs : List α} {F : List Nat} (hb : Bld R W base e v xs F) (hs : a.eval s = v) {c : Array Value} {T : TypeId} (g k : Nat) (hx : a.eval x = .slice (some ⟨g, 0, none⟩) 1 k) (hg : g = W.heap.size)
    (h1 : ∀ u ∈ c.toList, u.oneCell' = true) {y : α} {G : List Nat} (hy : R.own W c.toList y G) (hG : (∀ b ∈ G, b ∉ F ∧ v.ownBlock ≠ some b) ∧ G.Nodup ∧ ∀ b ∈ G, base ≤ b)
    (hbytes : xs.length + 1 ≤ 1099511627776) (hby : bytes ≤ 128) (hbase : base ≤ W.heap.size)
    (h : ∀ v' w', Bld R w' base e v' (xs ++ [y]) (F ++ G) → (∀ w0 : World, w0.heap.size ≤ base → Ext w0 W → Ext w0 w') →
      (∀ F' : List Nat, (∀ b ∈ F', b < W.heap.size) → (∀ b ∈ F', v.ownBlock ≠ some b) → (∀ b ∈ F', w'.heap[b]? = W.heap[b]?) ∧ ∀ b ∈ F', v'.ownBlock ≠ some b) → wpList P ops Q rest (a.put o.dst v') w') :
    wpList P ops Q (o :: rest) a (W.alloc (.cells c T)) := by
  obtain ⟨ht, i, z, hi, hz, hsize, hby2, hzs⟩ := E
  have x1 : Ext W (W.alloc (.cells c T)) := (Ext.refl W).alloc _
  have hb1 := hb.ext x1
  have hl := hb1.lt
  obtain ⟨cs, b1, b2, b3, b4, b5⟩ := hb1
  have hy1 : R.own (W.alloc (.cells c T)) c.toList y G := R.own_keep (fun b hb => x1.block (R.own_lt hy b hb)) hy
  refine wpList_append_own_at (W.alloc (.cells c T)) hgd s x t ho base e i z R.n bytes ht hi hz hsize hby2 hzs hsz v xs.length cs hs b1 ⟨g, 0, none⟩ 1 k c.toList hx (by rw [R.len (R.own_rd hy), Nat.one_mul]) (fun j u hj => ?_) h1
    (by unfold maxLen; omega) (Nat.le_trans (Nat.mul_le_mul hbytes hby) (by decide)) (Nat.le_trans hbase x1.size) ?_
  · subst hg
    have : (W.alloc (.cells c T)).cell? ⟨W.heap.size, j, none⟩ = c[j]? := ((Ext.refl (W.alloc (.cells c T))).box).1 j
    rw [add_eq, Nat.zero_add, this]
    simpa using hj
  · intro v' w' hown hgr _ hat
    obtain ⟨h5, h6⟩ := bld_grown hl b2 b3 b4 b5 hy1 hG hown hgr hat
    refine h _ _ h5 (fun w0 h7 h8 => h6 w0 h7 (h8.trans x1)) fun F' hF hv => ⟨fun b hb => ?_, fun b hb e => ?_⟩
    · rw [hgr.block b (Nat.lt_of_lt_of_le (hF b hb) x1.size) (fun e => hv b hb e.symm), x1.block (hF b hb)]
    · rcases hat with hat | hat
      · exact hv b hb (hat ▸ e)
      · rw [hat] at e
        injection e with e
        have := hF b hb
        have := x1.size
        omega
/-- at a step of a region that draws its order -/
theorem step_app1 {P : Program} {α : Type} {R : RepO α} {ops : Array Oper} {o : Oper} {a : Act} {w : World} {K : Act → World → Prop} {Q : Exit → Act → World → Prop} {Z : Prop} {t e : TypeId} {bytes : Nat} (E : ElemT P t e R.n bytes) (hsz : 0 < R.n)
    (hgd : o.guard = none) (s x : Operand) (ho : o.op = .call { callee := .builtin .append, args := #[s, x], argTypes := #[t, t] })
    {base : Nat} {v : Value} {xs : List α} {F : List Nat} (hb : Bld R w base e v xs F) (hs : a.eval s = v) {c : Array Value} {T : TypeId} {fr : Nat × Nat} (g k : Nat) (hx : a.eval x = .slice (some ⟨g, 0, none⟩) 1 k) (hg : w.heap[g]? = some (.cells c T fr))
    (h1 : ∀ u ∈ c.toList, u.oneCell' = true) {y : α} {G : List Nat} (hy : R.own w c.toList y G) (hG : (∀ b ∈ G, b ∉ F ∧ v.ownBlock ≠ some b) ∧ G.Nodup ∧ ∀ b ∈ G, base ≤ b)
    (hbytes : xs.length + 1 ≤ 1099511627776) (hby : bytes ≤ 128) (hbase : base ≤ w.heap.size) {w0 : World} (h0 : w0.heap.size ≤ base) (hx0 : Ext w0 w)
    (h : ∀ v' w', Bld R w' base e v' (xs ++ [y]) (F ++ G) → Ext w0 w' → K (a.put o.dst v') w') :
    if Region.wanted o (yielded ops a.tmps) = true then Oper.wp P o a w K Q else Z := by
  have hw : Region.wanted o (yielded ops a.tmps) = true := by simp [Region.wanted, hgd]
  rw [if_pos hw]
  obtain ⟨ht, i, z, hi, hz, hsize, hby2, hzs⟩ := E
  have hl := hb.lt
  obtain ⟨cs, b1, b2, b3, b4, b5⟩ := hb
  refine wp_append_lies w s x t ho base e i z R.n bytes ht hi hz hsize hby2 hzs hsz v xs.length cs hs b1 ⟨g, 0, none⟩ 1 k c.toList hx (by rw [R.len (R.own_rd hy), Nat.one_mul]) (World.news_of_block hg) h1 (by decide)
    (by unfold maxLen; omega) (Nat.le_trans (Nat.mul_le_mul hbytes hby) (by decide)) hbase w.heap.size rfl ?_
  intro g' cap w' hown hgr hat _
  have hat2 : (Value.slice (some ⟨g', 0, none⟩) (xs.length + 1) cap).ownBlock = v.ownBlock ∨ (Value.slice (some ⟨g', 0, none⟩) (xs.length + 1) cap).ownBlock = some w.heap.size := by
    rcases hat with hat | hat
    · exact .inl hat.symm
    · exact .inr (by rw [hat]; rfl)
  obtain ⟨h5, h6⟩ := bld_grown hl b2 b3 b4 b5 hy hG hown hgr hat2
  exact h _ _ h5 (h6 w0 h0 hx0)
/-- the same; other blocks stand -/
theorem step_app1k {P : Program} {α : Type} {R : RepO α} {ops : Array Oper} {o : Oper} {a : Act} {w : World} {K : Act → World → Prop} {Q : Exit → Act → World → Prop} {Z : Prop} {t e : TypeId} {bytes : Nat} (E : ElemT P t e R.n bytes) (hsz : 0 < R.n)
    (hgd : o.guard = none) (s x : Operand) (ho : o.op = .call { callee := .builtin .append, args := #[s, x], argTypes := #[t, t] })
    {base : Nat} {v : Value} {xs : List α} {F : List Nat} (hb : Bld R w base e v xs F) (hs : a.eval s = v) {c : Array Value} {T : TypeId} {fr : Nat × Nat} (g k : Nat) (hx : a.eval x = .slice (some ⟨g, 0, none⟩) 1 k) (hg : w.heap[g]? = some (.cells c T fr))
    (h1 : ∀ u ∈ c.toList, u.oneCell' = true) {y : α} {G : List Nat} (hy : R.own w c.toList y G) (hG : (∀ b ∈ G, b ∉ F ∧ v.ownBlock ≠ some b) ∧ G.Nodup ∧ ∀ b ∈ G, base ≤ b)
    (hbytes : xs.length + 1 ≤ 1099511627776) (hby : bytes ≤ 128) (hbase : base ≤ w.heap.size) {w0 : World} (h0 : w0.heap.size ≤ base) (hx0 : Ext w0 w)
    (h : ∀ v' w', Bld R w' base e v' (xs ++ [y]) (F ++ G) → Ext w0 w' → (∀ b, b < w.heap.size → v.ownBlock ≠ some b → w'.heap[b]? = w.heap[b]?) → K (a.put o.dst v') w') :
    if Region.wanted o (yielded ops a.tmps) = true then Oper.wp P o a w K Q else Z := by
  have hw : Region.wanted o (yielded ops a.tmps) = true := by simp [Region.wanted, hgd]
  rw [if_pos hw]
  obtain ⟨ht, i, z, hi, hz, hsize, hby2, hzs⟩ := E
  have hl := hb.lt
  obtain ⟨cs, b1, b2, b3, b4, b5⟩ := hb
  refine wp_append_lies w s x t ho base e i z R.n bytes ht hi hz hsize hby2 hzs hsz v xs.length cs hs b1 ⟨g, 0, none⟩ 1 k c.toList hx (by rw [R.len (R.own_rd hy), Nat.one_mul]) (World.news_of_block hg) h1 (by decide)
    (by unfold maxLen; omega) (Nat.le_trans (Nat.mul_le_mul hbytes hby) (by decide)) hbase w.heap.size rfl ?_
  intro g' cap w' hown hgr hat _
  have hat2 : (Value.slice (some ⟨g', 0, none⟩) (xs.length + 1) cap).ownBlock = v.ownBlock ∨ (Value.slice (some ⟨g', 0, none⟩) (xs.length + 1) cap).ownBlock = some w.heap.size := by
    rcases hat with hat | hat
    · exact .inl hat.symm
    · exact .inr (by rw [hat]; rfl)
  obtain ⟨h5, h6⟩ := bld_grown hl b2 b3 b4 b5 hy hG hown hgr hat2
  exact h _ _ h5 (h6 w0 h0 hx0) fun b hb2 hne => hgr.block b hb2 (fun e => hne e.symm)
theorem cell_of_same {w w2 : World} {b : Nat} (h : w2.heap[b]? = w.heap[b]?) (o : Nat) : w2.cell? ⟨b, o, none⟩ = w.cell? ⟨b, o, none⟩ := by unfold World.cell?; rw [h]
end Go.Proofs.YtidchfncfcckiaaGreat

namespace Go.Proofs.YtidchfncfcckiaaGreat
open Go.RowKit

def idxI (x : Int) (xs : List Int) : Int := idxF (fun y => y == x) 0 xs
def hasI (x : Int) (xs : List Int) : Bool := xs.any fun y => y == x
theorem hasI_iff (x : Int) (xs : List Int) : hasI x xs = true ↔ x ∈ xs := by simp [hasI]
theorem idxI_nn (x : Int) (xs : List Int) : decide (0 ≤ idxI x xs) = hasI x xs := idxF_any _ _ _
theorem idxF_lt {α : Type} (p : α → Bool) (xs : List α) (k : Nat) : -1 ≤ idxF p k xs ∧ idxF p k xs < k + xs.length := by
  induction xs generalizing k with
  | nil => simp [idxF]; omega
  | cons x xs ih =>
    simp only [idxF, List.length_cons]
    split
    · omega
    · have := ih (k + 1); omega
theorem idxI_bd (x : Int) (xs : List Int) : -1 ≤ idxI x xs ∧ idxI x xs < xs.length := by
  have := idxF_lt (fun y => y == x) xs 0
  unfold idxI; omega

set_option maxHeartbeats 400000 in
theorem spec_l24Find (v : Value) (xs : List Int) (x : Int) (w : World) (h : Sl intR w v xs) :
    Calls Tryz.prog 95 #[v, .int .i64 x] w fun e w2 => e = .returned (.int .i64 (idxI x xs)) ∧ w = w2 := by
  obtain ⟨A, cap, rfl, hm⟩ := h.form
  go_enter Tryz.func95, Tryz.ntmps95
  go_wp2
  go_loop [5] (fun i => ∃ k : Nat, k ≤ xs.length ∧ i = .int .i64 k ∧ ∀ y ∈ xs.take k, (y == x) = false) (fun i => xs.length - (intOf i).toNat)
  case atStart => exact ⟨0, Nat.zero_le _, rfl, by simp⟩
  case round =>
    obtain ⟨k, hk, rfl, hz⟩ := hrel
    have HZ := hid hz
    clear hz
    by_cases hlt : k < xs.length
    · obtain ⟨b, off, rfl, hb, hc⟩ := h.int hlt
      by_cases h0 : xs[k] = x
      · have h1 : (xs[k] == x) = true := by simp [h0]
        have H0 := hid h0
        clear h0
        go_wp2
        go_ret
        exact ⟨ret_int (idxF_at (fun y => y == x) xs k hlt HZ.out (by simp [H0.out])).symm, rfl⟩
      · have h1 : (xs[k] == x) = false := by rw [beq_eq_false_iff_ne]; first | exact h0 | exact fun e => h0 e.symm
        have H0 := hid h0
        clear h0
        go_wp2
        go_round
        case rel => exact ⟨k + 1, by omega, by go_num, take_snoc_all _ xs k hlt HZ.out (by simp [H0.out])⟩
        case measure => simp [intOf]; omega
    · go_wp2
      go_ret
      exact ⟨ret_int (idxF_all _ xs k hlt HZ.out).symm, rfl⟩
set_option maxHeartbeats 400000 in
theorem slices_Index (v : Value) (xs : List Int) (x : Int) (w : World) (h : Sl intR w v xs) :
    Calls Tryz.prog 87 #[v, .int .i64 x] w fun e w2 => e = .returned (.int .i64 (idxI x xs)) ∧ w = w2 := by
  obtain ⟨A, cap, rfl, hm⟩ := h.form
  go_enter Tryz.func87, Tryz.ntmps87
  go_wp2
  go_loop [8] (fun i => ∃ k : Nat, k ≤ xs.length ∧ i = .int .i64 k ∧ ∀ y ∈ xs.take k, (y == x) = false) (fun i => xs.length - (intOf i).toNat)
  case atStart => exact ⟨0, Nat.zero_le _, rfl, by simp⟩
  case round =>
    obtain ⟨k, hk, rfl, hz⟩ := hrel
    have HZ := hid hz
    clear hz
    by_cases hlt : k < xs.length
    · obtain ⟨b, off, rfl, hb, hc⟩ := h.int hlt
      by_cases h0 : xs[k] = x
      · have h1 : (x == xs[k]) = true := by simp [h0]
        have H0 := hid h0
        clear h0
        go_wp2
        go_ret
        exact ⟨ret_int (idxF_at (fun y => y == x) xs k hlt HZ.out (by simp [H0.out])).symm, rfl⟩
      · have h1 : (x == xs[k]) = false := by rw [beq_eq_false_iff_ne]; first | exact h0 | exact fun e => h0 e.symm
        have H0 := hid h0
        clear h0
        go_wp2
        go_round
        case rel => exact ⟨k + 1, by omega, by go_num, take_snoc_all _ xs k hlt HZ.out (by simp [H0.out])⟩
        case measure => simp [intOf]; omega
    · go_wp2
      go_ret
      exact ⟨ret_int (idxF_all _ xs k hlt HZ.out).symm, rfl⟩

set_option maxHeartbeats 400000 in
theorem slices_Contains (v : Value) (xs : List Int) (x : Int) (w : World) (h : Sl intR w v xs) :
    Calls Tryz.prog 143 #[v, .int .i64 x] w fun e w2 => e = .returned (.bool (hasI x xs)) ∧ w = w2 := by
  have hb := idxI_bd x xs
  have hn := idxI_nn x xs
  have HN := hid hn
  clear hn
  go_enter Tryz.func143, Tryz.ntmps143
  go_wp2_with fail
  refine (slices_Index v xs x w h).mono ?_
  rintro e w2 ⟨rfl, rfl⟩
  generalize idxI x xs = L at hb HN ⊢
  go_wp2
  go_ret
  exact ⟨by rw [← HN.out]; rfl, rfl⟩
end Go.Proofs.YtidchfncfcckiaaGreat

namespace Go.Proofs.YtidchfncfcckiaaGreat
open Go.RowKit

set_option maxHeartbeats 400000 in
theorem markIntS_c (v : Value) (xs : List Int) (F : List Nat) (k : Int) (w : World) (h : OwnSl intO w v xs F) (hN : F.Nodup) (h0 : 0 ≤ k) (hb : k + (lstMk intMk).cnt xs ≤ 1152921504606846976) :
    Calls Tryz.prog 76 #[v, .int .i64 k] w fun e w2 => ∃ ys, e = .returned (.int .i64 (k + ((lstMk intMk).cnt xs : Nat))) ∧ OwnSl intO w2 v ys F ∧ (lstMk intMk).is k xs ys ∧ Chg F w w2 := by
  have hcn : (lstMk intMk).cnt xs = xs.length := intMk_sum xs
  rw [hcn] at hb ⊢
  obtain ⟨A, cap, rfl, hm⟩ := h.form
  go_enter Tryz.func76, Tryz.ntmps76
  go_wp2
  go_loopw [1, 5] (fun l i wr => ∃ (j : Nat) (ys : List Int), j ≤ xs.length ∧ i = .int .i64 j ∧ l = .int .i64 (k + j) ∧ OwnSl intO wr (.slice A xs.length cap) ys F ∧ Part intMk k xs ys j ∧ Chg F w wr) (fun _ i _ => xs.length - (intOf i).toNat)
  case atStart => exact ⟨0, xs, Nat.zero_le _, rfl, by simp, h, .zero _ _ _, .refl _ _⟩
  case round =>
    obtain ⟨j, ys, hj, rfl, rfl, ho, hp, hc⟩ := hrel
    by_cases hlt : j < xs.length
    · obtain ⟨hy, _⟩ := hp.at_ hlt
      obtain ⟨g, off, cap2, e, hg, hcell, hfr, hst⟩ := ho.int_store hN hy
      injection e with e1 e2 e3
      subst e1
      have hst2 := hst (k + j) (by unfold I64; omega)
      have HS := hid hst2
      clear hst hst2
      go_wp2
      go_roundw
      case rel =>
        refine ⟨j + 1, _, by omega, by go_num, by go_num, HS.out, hp.step hlt ?_, hc.setCell hg _⟩
        show _ = k + (intMk.sum (xs.take j) : Nat)
        rw [intMk_sum, List.length_take, Nat.min_eq_left (by omega)]
      case measure => simp [intOf]; omega
    · go_wp2
      go_ret
      exact ⟨ys, ret_int (by omega), ho, hp.all hlt, hc⟩

set_option maxHeartbeats 400000 in
theorem heldIntS_c (v : Value) (xs ys : List Int) (k : Int) (w : World) (h : Sl intR w v ys) (hi : (lstMk intMk).is k xs ys) (h0 : 0 ≤ k) (hb : k + (lstMk intMk).cnt xs ≤ 1152921504606846976) :
    Calls Tryz.prog 77 #[v, .int .i64 k] w fun e w2 => e = .returned (.int .i64 (k + ((lstMk intMk).cnt xs : Nat))) ∧ w = w2 := by
  have hcn : (lstMk intMk).cnt xs = xs.length := intMk_sum xs
  rw [hcn] at hb ⊢
  have hl := hi.1
  obtain ⟨A, cap, rfl, hm⟩ := h.form
  go_enter Tryz.func77, Tryz.ntmps77
  go_wp2
  go_loop [1, 5] (fun l i => ∃ j : Nat, j ≤ ys.length ∧ i = .int .i64 j ∧ l = .int .i64 (k + j)) (fun _ i => ys.length - (intOf i).toNat)
  case atStart => exact ⟨0, Nat.zero_le _, rfl, by simp⟩
  case round =>
    obtain ⟨j, hj, rfl, rfl⟩ := hrel
    by_cases hlt : j < ys.length
    · obtain ⟨b, off, rfl, hb1, hc⟩ := h.int hlt
      have hv := hi.2 j (by omega) hlt
      have hv2 : ys[j] = k + j := by
        have e : ys[j] = k + (intMk.sum (xs.take j) : Nat) := hv
        rw [e, intMk_sum, List.length_take, Nat.min_eq_left (by omega)]
      rw [hv2] at hc
      clear hv2 hv
      go_wp2
      go_round
      case rel => exact ⟨j + 1, by omega, by go_num, by go_num⟩
      case measure => simp [intOf]; omega
    · go_wp2
      go_ret
      exact ⟨ret_int (by omega), rfl⟩
end Go.Proofs.YtidchfncfcckiaaGreat

namespace Go.Proofs.YtidchfncfcckiaaGreat
open Go.RowKit
theorem elemInt : ElemT Tryz.prog 28 3 intO.n 8 := by
  obtain ⟨i, h1, h2, h3, h4⟩ := info_parts infoInt
  exact ⟨Tryz.underlying28, i, _, h1, h2, h3, h4, rfl⟩
theorem elemInts : ElemT Tryz.prog 24 28 (slO intO).n 24 := by
  obtain ⟨i, h1, h2, h3, h4⟩ := info_parts infoInts
  exact ⟨Tryz.underlying24, i, _, h1, h2, h3, h4, rfl⟩
theorem one_int (x : Int) : ∀ u ∈ (#[Value.int .i64 x] : Array Value).toList, u.oneCell' = true := by simp [Value.oneCell']
theorem one_slice (A : Option Addr) (n c : Nat) : ∀ u ∈ (#[Value.slice A n c] : Array Value).toList, u.oneCell' = true := by simp [Value.oneCell']
theorem own_int (W : World) (x : Int) (h : I64 x) : intO.own W (#[Value.int .i64 x] : Array Value).toList x [] := ⟨⟨rfl, h⟩, rfl⟩
end Go.Proofs.YtidchfncfcckiaaGreat

namespace Go.Proofs.YtidchfncfcckiaaGreat
open Go.RowKit

/-- data of w0: they own nothing here -/
def atO {α : Type} (R : Rep α) (w0 : World) : RepO α :=
  { n := R.n
    rd := fun _ cs x => R.rd w0 cs x
    len := R.len
    mono := fun _ h => h
    own := fun _ cs x F => R.rd w0 cs x ∧ F = []
    own_rd := fun h => h.1
    own_lt := fun h b hb => by rw [h.2] at hb; cases hb
    own_keep := fun _ h => h }
theorem Sl.of_at {α : Type} {R : Rep α} {w0 w : World} {v : Value} {xs : List α} (h : Sl (atO R w0).toRep w v xs) (e : Ext w0 w) : Sl R w v xs := by
  obtain ⟨A, cap, rfl, hm, hi⟩ := h
  refine ⟨A, cap, rfl, hm, fun i h => ?_⟩
  obtain ⟨b, off, cs, rfl, hr, hc⟩ := hi i h
  exact ⟨b, off, cs, rfl, R.mono e hr, hc⟩
end Go.Proofs.YtidchfncfcckiaaGreat

namespace Go.Proofs.YtidchfncfcckiaaGreat
open Go.RowKit

theorem getD_app_l {α : Type} {d : α} {a b : List α} {i : Nat} (h : i < a.length) : (a ++ b).getD i d = a.getD i d := by
  rw [List.getD_eq_getElem?_getD, List.getD_eq_getElem?_getD, List.getElem?_append_left h]
theorem getD_app_at {α : Type} {d x : α} {a : List α} : (a ++ [x]).getD a.length d = x := by
  rw [List.getD_eq_getElem?_getD, List.getElem?_append_right (Nat.le_refl _), Nat.sub_self]; rfl
theorem getD_getElem {α : Type} {d : α} {a : List α} {i : Nat} (h : i < a.length) : a.getD i d = a[i] := by
  rw [List.getD_eq_getElem?_getD, List.getElem?_eq_getElem h]; rfl
theorem getD_set {α : Type} {d : α} (a : List α) (i j : Nat) (x : α) (h : i < a.length) : (a.set i x).getD j d = if j = i then x else a.getD j d := by
  rw [List.getD_eq_getElem?_getD, List.getD_eq_getElem?_getD, List.getElem?_set]
  by_cases hij : i = j
  · subst hij; rw [if_pos rfl, if_pos rfl, if_pos h]; rfl
  · rw [if_neg hij, if_neg (fun e => hij e.symm)]
theorem getD_mem {a : List Int} {i : Nat} (h : i < a.length) : a.getD i 0 ∈ a := by rw [getD_getElem h]; exact List.getElem_mem h
theorem mem_getD {a : List Int} {x : Int} (h : x ∈ a) : ∃ i, i < a.length ∧ a.getD i 0 = x := by
  obtain ⟨i, hi, rfl⟩ := List.getElem_of_mem h
  exact ⟨i, hi, getD_getElem hi⟩

/-- the next free label -/
def nextOf (l : List Int) : Int := l.foldl (fun n x => max n (x + 1)) 0
theorem nextOf_snoc (l : List Int) (x : Int) : nextOf (l ++ [x]) = max (nextOf l) (x + 1) := by unfold nextOf; rw [List.foldl_append]; rfl
/-- each label is at most the next free one -/
def RG (l : List Int) : Prop := ∀ k, k < l.length → 0 ≤ l.getD k 0 ∧ l.getD k 0 ≤ nextOf (l.take k)
theorem RG.nil : RG [] := fun k h => by simp at h
theorem RG.init {l : List Int} {x : Int} (h : RG (l ++ [x])) : RG l ∧ 0 ≤ x ∧ x ≤ nextOf l := by
  refine ⟨fun k hk => ?_, ?_⟩
  · have := h k (by simp; omega)
    rwa [getD_app_l hk, List.take_append_of_le_length (by omega)] at this
  · have := h l.length (by simp)
    rwa [getD_app_at, List.take_left] at this
theorem RG.snoc {l : List Int} {x : Int} (h : RG l) (h0 : 0 ≤ x) (h1 : x ≤ nextOf l) : RG (l ++ [x]) := fun k hk => by
  by_cases hkl : k < l.length
  · rw [getD_app_l hkl, List.take_append_of_le_length (by omega)]; exact h k hkl
  · have : k = l.length := by simp at hk; omega
    subst this
    rw [getD_app_at, List.take_left]; exact ⟨h0, h1⟩
theorem RG.facts : ∀ (n : Nat) (l : List Int), l.length = n → RG l → 0 ≤ nextOf l ∧ (∀ v, 0 ≤ v → v < nextOf l → v ∈ l) ∧ ∀ x ∈ l, 0 ≤ x ∧ x < nextOf l
  | 0, l, h, _ => by
    have : l = [] := List.eq_nil_of_length_eq_zero h
    subst this
    exact ⟨by decide, fun v h0 h1 => absurd h1 (by show ¬ v < 0; omega), fun _ hx => by cases hx⟩
  | n + 1, l, h, hr => by
    rcases List.eq_nil_or_concat l with rfl | ⟨p, x, rfl⟩
    · simp at h
    · rw [List.concat_eq_append] at h hr ⊢
      obtain ⟨hp, x0, x1⟩ := hr.init
      obtain ⟨i1, i2, i3⟩ := RG.facts n p (by simpa using h) hp
      rw [nextOf_snoc]
      refine ⟨by omega, fun v h0 h1 => ?_, fun y hy => ?_⟩
      · by_cases hv : v < nextOf p
        · exact List.mem_append_left _ (i2 v h0 hv)
        · exact List.mem_append_right _ (by rw [List.mem_singleton]; omega)
      · rcases List.mem_append.1 hy with hy | hy
        · have := i3 y hy; omega
        · rw [List.mem_singleton] at hy; omega
theorem RG.mem {l : List Int} (h : RG l) {v : Int} (h0 : 0 ≤ v) (h1 : v < nextOf l) : v ∈ l := (RG.facts _ l rfl h).2.1 v h0 h1
theorem RG.lt {l : List Int} (h : RG l) {x : Int} (hx : x ∈ l) : 0 ≤ x ∧ x < nextOf l := (RG.facts _ l rfl h).2.2 x hx

/-- the same elements are equal -/
def SameK (a b : List Int) : Prop := a.length = b.length ∧ ∀ i j, i < a.length → j < a.length → (a.getD i 0 = a.getD j 0 ↔ b.getD i 0 = b.getD j 0)
theorem SameK.symm {a b : List Int} (h : SameK a b) : SameK b a := ⟨h.1.symm, fun i j hi hj => (h.2 i j (by rw [h.1]; exact hi) (by rw [h.1]; exact hj)).symm⟩
theorem SameK.trans {a b c : List Int} (h : SameK a b) (k : SameK b c) : SameK a c := ⟨h.1.trans k.1, fun i j hi hj => (h.2 i j hi hj).trans (k.2 i j (by rw [← h.1]; exact hi) (by rw [← h.1]; exact hj))⟩
theorem SameK.init {a b : List Int} {x y : Int} (h : SameK (a ++ [x]) (b ++ [y])) : SameK a b ∧ ∀ i, i < a.length → (a.getD i 0 = x ↔ b.getD i 0 = y) := by
  have hl : a.length = b.length := by have := h.1; simpa using this
  refine ⟨⟨hl, fun i j hi hj => ?_⟩, fun i hi => ?_⟩
  · have := h.2 i j (by simp; omega) (by simp; omega)
    rwa [getD_app_l hi, getD_app_l hj, getD_app_l (by omega), getD_app_l (by omega)] at this
  · have := h.2 i a.length (by simp; omega) (by simp)
    rw [getD_app_l hi, getD_app_at, getD_app_l (by omega)] at this
    rw [this, hl, getD_app_at]
theorem RG.unique : ∀ (n : Nat) (a b : List Int), a.length = n → RG a → RG b → SameK a b → a = b
  | 0, a, b, h, _, _, hs => by
    have h1 : a = [] := List.eq_nil_of_length_eq_zero h
    have h2 : b = [] := List.eq_nil_of_length_eq_zero (by rw [← hs.1]; exact h)
    rw [h1, h2]
  | n + 1, a, b, h, ha, hb, hs => by
    rcases List.eq_nil_or_concat a with rfl | ⟨p, x, rfl⟩
    · simp at h
    · rcases List.eq_nil_or_concat b with rfl | ⟨q, y, rfl⟩
      · have := hs.1; simp at this
      · rw [List.concat_eq_append] at h ha hs ⊢
        rw [List.concat_eq_append] at hb hs ⊢
        obtain ⟨hp, x0, x1⟩ := ha.init
        obtain ⟨hq, y0, y1⟩ := hb.init
        obtain ⟨hs1, hs2⟩ := hs.init
        have e := RG.unique n p q (by simpa using h) hp hq hs1
        subst e
        have hxy : x = y := by
          by_cases hx : x ∈ p
          · obtain ⟨i, hi, e⟩ := mem_getD hx
            have := (hs2 i hi).1 e
            omega
          · by_cases hy : y ∈ p
            · obtain ⟨i, hi, e⟩ := mem_getD hy
              have := (hs2 i hi).2 e
              omega
            · have h1 : ¬ x < nextOf p := fun h => hx (hp.mem x0 h)
              have h2 : ¬ y < nextOf p := fun h => hy (hp.mem y0 h)
              omega
        rw [hxy]

/-! ### Canonical labels -/
def seenSt (s : List Int) (x : Int) : List Int := if idxI x s < 0 then s ++ [x] else s
def seenL (l : List Int) : List Int := l.foldl seenSt []
def canonL (l : List Int) : List Int := l.map fun x => idxI x (seenL l)
theorem seenL_snoc (l : List Int) (x : Int) : seenL (l ++ [x]) = seenSt (seenL l) x := by unfold seenL; rw [List.foldl_append]; rfl
theorem idxF_cases {α : Type} (p : α → Bool) : ∀ (xs : List α) (k : Nat), (idxF p k xs = -1 ∧ ∀ x ∈ xs, p x = false) ∨ ∃ (j : Nat) (h : j < xs.length), idxF p k xs = (k + j : Nat) ∧ p xs[j] = true ∧ ∀ (i : Nat) (hi : i < j), p (xs[i]'(by omega)) = false
  | [], k => .inl ⟨rfl, fun _ h => by cases h⟩
  | x :: xs, k => by
    by_cases hp : p x = true
    · refine .inr ⟨0, by simp, ?_, hp, fun i hi => by omega⟩
      rw [idxF, if_pos hp]; simp
    · have hp' : p x = false := by simpa using hp
      rw [idxF, if_neg hp]
      rcases idxF_cases p xs (k + 1) with ⟨h1, h2⟩ | ⟨j, hj, h1, h2, h3⟩
      · exact .inl ⟨h1, fun y hy => by
          rcases List.mem_cons.1 hy with rfl | hy
          · exact hp'
          · exact h2 y hy⟩
      · refine .inr ⟨j + 1, by simp; omega, ?_, ?_, fun i hi => ?_⟩
        · rw [h1]; congr 1; omega
        · simpa using h2
        · cases i with
          | zero => simpa using hp'
          | succ i => simpa using h3 i (by omega)
theorem idxI_cases (x : Int) (s : List Int) : (idxI x s = -1 ∧ x ∉ s) ∨ ∃ j, j < s.length ∧ idxI x s = (j : Int) ∧ s.getD j 0 = x ∧ ∀ i, i < j → s.getD i 0 ≠ x := by
  unfold idxI
  rcases idxF_cases (fun y => y == x) s 0 with ⟨h1, h2⟩ | ⟨j, hj, h1, h2, h3⟩
  · exact .inl ⟨h1, fun hx => by have := h2 x hx; simp at this⟩
  · refine .inr ⟨j, hj, by rw [h1]; simp, by rw [getD_getElem hj]; simpa using h2, fun i hi => ?_⟩
    have := h3 i hi
    rw [getD_getElem (by omega)]
    simpa using this
theorem idxI_neg {x : Int} {s : List Int} : idxI x s < 0 ↔ x ∉ s := by
  rcases idxI_cases x s with ⟨h1, h2⟩ | ⟨j, hj, h1, h2, h3⟩
  · exact ⟨fun _ => h2, fun _ => by omega⟩
  · exact ⟨fun h => by omega, fun h => absurd (h2 ▸ getD_mem hj) h⟩
theorem idxI_app {x : Int} {s : List Int} (h : x ∈ s) (t : List Int) : idxI x (s ++ t) = idxI x s := by
  rcases idxI_cases x s with ⟨h1, h2⟩ | ⟨j, hj, h1, h2, h3⟩
  · exact absurd h h2
  · rcases idxI_cases x (s ++ t) with ⟨k1, k2⟩ | ⟨i, hi, k1, k2, k3⟩
    · exact absurd (List.mem_append_left _ h) k2
    · have e : i = j := by
        by_cases h4 : i < j
        · rw [getD_app_l (by omega)] at k2; exact absurd k2 (h3 i h4)
        · by_cases h5 : j < i
          · have := k3 j h5; rw [getD_app_l hj] at this; exact absurd h2 this
          · omega
      rw [k1, h1, e]
theorem idxI_last {x : Int} {s : List Int} (h : x ∉ s) : idxI x (s ++ [x]) = (s.length : Int) := by
  rcases idxI_cases x (s ++ [x]) with ⟨k1, k2⟩ | ⟨i, hi, k1, k2, k3⟩
  · exact absurd (List.mem_append_right _ (List.mem_singleton_self _)) k2
  · have hi2 : i < s.length + 1 := by simpa using hi
    have e : i = s.length := by
      by_cases h4 : i < s.length
      · rw [getD_app_l h4] at k2; exact absurd (k2 ▸ getD_mem h4) h
      · omega
    rw [k1, e]
theorem idxI_inj {x y : Int} {s : List Int} (hx : x ∈ s) (h : idxI x s = idxI y s) : x = y := by
  rcases idxI_cases x s with ⟨h1, h2⟩ | ⟨j, hj, h1, h2, h3⟩
  · exact absurd hx h2
  · rcases idxI_cases y s with ⟨k1, k2⟩ | ⟨i, hi, k1, k2, k3⟩
    · omega
    · have : i = j := by omega
      subst this
      rw [← h2, ← k2]
theorem seenL_mem (x : Int) : ∀ (n : Nat) (l : List Int), l.length = n → (x ∈ seenL l ↔ x ∈ l)
  | 0, l, h => by
    have : l = [] := List.eq_nil_of_length_eq_zero h
    subst this
    exact Iff.rfl
  | n + 1, l, h => by
    rcases List.eq_nil_or_concat l with rfl | ⟨p, y, rfl⟩
    · simp at h
    · rw [List.concat_eq_append] at h ⊢
      have ih := seenL_mem x n p (by simpa using h)
      rw [seenL_snoc, List.mem_append, List.mem_singleton, ← ih]
      unfold seenSt
      by_cases hy : idxI y (seenL p) < 0
      · rw [if_pos hy, List.mem_append, List.mem_singleton]
      · rw [if_neg hy]
        have hm : y ∈ seenL p := Classical.byContradiction fun hn => hy (idxI_neg.2 hn)
        exact ⟨.inl, fun h => h.elim id fun e => e ▸ hm⟩
theorem canonL_len (l : List Int) : (canonL l).length = l.length := by unfold canonL; rw [List.length_map]
theorem canonL_getD {l : List Int} {i : Nat} (h : i < l.length) : (canonL l).getD i 0 = idxI (l.getD i 0) (seenL l) := by
  rw [getD_getElem (by rw [canonL_len]; exact h), getD_getElem h]
  unfold canonL
  rw [List.getElem_map]
theorem canonL_snoc (l : List Int) (x : Int) : canonL (l ++ [x]) = canonL l ++ [idxI x (seenSt (seenL l) x)] := by
  unfold canonL
  rw [List.map_append, seenL_snoc]
  congr 1
  apply List.map_congr_left
  intro y hy
  have hm : y ∈ seenL l := (seenL_mem y _ l rfl).2 hy
  unfold seenSt
  split
  · exact idxI_app hm _
  · rfl
theorem canonL_rg : ∀ (n : Nat) (l : List Int), l.length = n → RG (canonL l) ∧ nextOf (canonL l) = (seenL l).length
  | 0, l, h => by
    have : l = [] := List.eq_nil_of_length_eq_zero h
    subst this
    exact ⟨RG.nil, rfl⟩
  | n + 1, l, h => by
    rcases List.eq_nil_or_concat l with rfl | ⟨p, x, rfl⟩
    · simp at h
    · rw [List.concat_eq_append] at h ⊢
      obtain ⟨i1, i2⟩ := canonL_rg n p (by simpa using h)
      rw [canonL_snoc, seenL_snoc]
      unfold seenSt
      by_cases hx : idxI x (seenL p) < 0
      · rw [if_pos hx]
        have e := idxI_last (idxI_neg.1 hx)
        rw [e]
        refine ⟨i1.snoc (by omega) (by omega), ?_⟩
        rw [nextOf_snoc, i2, List.length_append, List.length_singleton]
        omega
      · rw [if_neg hx]
        rcases idxI_cases x (seenL p) with ⟨h1, _⟩ | ⟨j, hj, h1, _, _⟩
        · omega
        · rw [h1]
          refine ⟨i1.snoc (by omega) (by omega), ?_⟩
          rw [nextOf_snoc, i2]
          omega
theorem canonL_same (l : List Int) : SameK (canonL l) l := by
  refine ⟨canonL_len l, fun i j hi hj => ?_⟩
  rw [canonL_len] at hi hj
  rw [canonL_getD hi, canonL_getD hj]
  exact ⟨fun h => idxI_inj ((seenL_mem _ _ l rfl).2 (getD_mem hi)) h, fun h => by rw [h]⟩
theorem canonL_RG (l : List Int) : RG (canonL l) := (canonL_rg _ l rfl).1
theorem canonL_eq {a b : List Int} (h : SameK a b) : canonL a = canonL b := RG.unique _ _ _ rfl (canonL_RG a) (canonL_RG b) ((canonL_same a).trans (h.trans (canonL_same b).symm))
theorem canonL_of_rg {a : List Int} (h : RG a) : canonL a = a := RG.unique _ _ _ rfl (canonL_RG a) h (canonL_same a)

/-! ### Components -/
inductive Conn {α : Type} (R : α → α → Prop) (a : α) : α → Prop
  | refl : Conn R a a
  | step {b c : α} : Conn R a b → (R b c ∨ R c b) → Conn R a c
theorem Conn.trans {α : Type} {R : α → α → Prop} {a b c : α} (h : Conn R a b) (k : Conn R b c) : Conn R a c := by
  induction k with
  | refl => exact h
  | step _ l ih => exact ih.step l
theorem Conn.one {α : Type} {R : α → α → Prop} {a b : α} (h : R a b) : Conn R a b := Conn.refl.step (.inl h)
theorem Conn.symm {α : Type} {R : α → α → Prop} {a b : α} (h : Conn R a b) : Conn R b a := by
  induction h with
  | refl => exact .refl
  | step _ l ih => exact (Conn.refl.step l.symm).trans ih
theorem Conn.keep {α : Type} {R : α → α → Prop} {S : α → Prop} (hS : ∀ a b, S a → (R a b ∨ R b a) → S b) {a b : α} (h : Conn R a b) (ha : S a) : S b := by
  induction h with
  | refl => exact ha
  | step _ l ih => exact hS _ _ ih l
theorem Conn.mono {α : Type} {R Q : α → α → Prop} (hQ : ∀ a b, R a b → Conn Q a b) {a b : α} (h : Conn R a b) : Conn Q a b := by
  induction h with
  | refl => exact .refl
  | step _ l ih => exact l.elim (fun l => ih.trans (hQ _ _ l)) fun l => ih.trans (hQ _ _ l).symm
open Classical in
noncomputable def repC (R : Nat → Nat → Prop) (n i : Nat) : Int := (((List.range n).find? fun j => decide (Conn R j i)).getD 0 : Nat)
theorem repC_iff {R : Nat → Nat → Prop} {n i j : Nat} (hi : i < n) (hj : j < n) : repC R n i = repC R n j ↔ Conn R i j := by
  classical
  unfold repC
  constructor
  · intro h
    have key : ∀ i, i < n → ∃ k, ((List.range n).find? fun j => decide (Conn R j i)) = some k ∧ Conn R k i := fun i hi => by
      cases hf : (List.range n).find? fun j => decide (Conn R j i) with
      | none =>
        have := List.find?_eq_none.1 hf i (List.mem_range.2 hi)
        exact absurd (decide_eq_true Conn.refl) this
      | some k =>
        have h2 := List.find?_some hf
        exact ⟨k, rfl, of_decide_eq_true h2⟩
    obtain ⟨k, e1, c1⟩ := key i hi
    obtain ⟨k2, e2, c2⟩ := key j hj
    rw [e1, e2] at h
    have h4 : ((k : Nat) : Int) = (k2 : Int) := h
    have hk : k = k2 := by omega
    subst hk
    exact c1.symm.trans c2
  · intro h
    have e : (fun k => decide (Conn R k i)) = fun k => decide (Conn R k j) := by
      funext k
      have : Conn R k i ↔ Conn R k j := ⟨fun c => c.trans h, fun c => c.trans h.symm⟩
      simp only [this]
    rw [show ((List.range n).find? fun k => decide (Conn R k i)) = (List.range n).find? fun k => decide (Conn R k j) from by rw [e]]
/-- labels of the components: by their least elements -/
noncomputable def compL (n : Nat) (R : Nat → Nat → Prop) : List Int := canonL ((List.range n).map (repC R n))
def IsComp (n : Nat) (R : Nat → Nat → Prop) (l : List Int) : Prop := l.length = n ∧ RG l ∧ ∀ i j, i < n → j < n → (l.getD i 0 = l.getD j 0 ↔ Conn R i j)
theorem IsComp.unique {n : Nat} {R : Nat → Nat → Prop} {a b : List Int} (ha : IsComp n R a) (hb : IsComp n R b) : a = b :=
  RG.unique _ a b rfl ha.2.1 hb.2.1 ⟨ha.1.trans hb.1.symm, fun i j hi hj => (ha.2.2 i j (by rw [← ha.1]; exact hi) (by rw [← ha.1]; exact hj)).trans (hb.2.2 i j (by rw [← ha.1]; exact hi) (by rw [← ha.1]; exact hj)).symm⟩
theorem compL_is (n : Nat) (R : Nat → Nat → Prop) : IsComp n R (compL n R) := by
  have hl : ((List.range n).map (repC R n)).length = n := by rw [List.length_map, List.length_range]
  refine ⟨by unfold compL; rw [canonL_len, hl], canonL_RG _, fun i j hi hj => ?_⟩
  have hs := (canonL_same ((List.range n).map (repC R n))).2 i j (by rw [canonL_len, hl]; exact hi) (by rw [canonL_len, hl]; exact hj)
  have e : ∀ i, i < n → ((List.range n).map (repC R n)).getD i 0 = repC R n i := fun i hi => by
    rw [getD_getElem (by rw [hl]; exact hi), List.getElem_map, List.getElem_range]
  rw [e i hi, e j hj] at hs
  exact hs.trans (repC_iff hi hj)
theorem IsComp.eq {n : Nat} {R : Nat → Nat → Prop} {a : List Int} (ha : IsComp n R a) : a = compL n R := ha.unique (compL_is n R)
theorem compL_congr {n : Nat} {R Q : Nat → Nat → Prop} (h : ∀ i j, i < n → j < n → (Conn R i j ↔ Conn Q i j)) : compL n R = compL n Q := by
  have := compL_is n R
  exact IsComp.eq ⟨this.1, this.2.1, fun i j hi hj => (this.2.2 i j hi hj).trans (h i j hi hj)⟩

/-- what a search from i leaves: l before, l' behind, c the label -/
structure Vis (R : Nat → Nat → Prop) (n : Nat) (c : Int) (i : Nat) (l l' : List Int) : Prop where
  len : l'.length = n
  keep : ∀ a, a < n → 0 ≤ l.getD a 0 → l'.getD a 0 = l.getD a 0
  new : ∀ a, a < n → l.getD a 0 < 0 → l'.getD a 0 = l.getD a 0 ∨ l'.getD a 0 = c
  root : l'.getD i 0 = c
  conn : ∀ a, a < n → l.getD a 0 < 0 → l'.getD a 0 = c → Conn R i a
  closed : ∀ a b, a < n → b < n → l.getD a 0 < 0 → l'.getD a 0 = c → R a b → 0 ≤ l'.getD b 0
/-- the loop over all items: i items are done, c labels are in use -/
structure Out (R : Nat → Nat → Prop) (n : Nat) (i : Nat) (l : List Int) (c : Int) : Prop where
  len : l.length = n
  bd : ∀ a, a < n → l.getD a 0 = -1 ∨ (0 ≤ l.getD a 0 ∧ l.getD a 0 < c)
  done : ∀ a, a < n → a < i → 0 ≤ l.getD a 0
  closed : ∀ a b, a < n → b < n → 0 ≤ l.getD a 0 → R a b → l.getD b 0 = l.getD a 0
  conn : ∀ a b, a < n → b < n → 0 ≤ l.getD a 0 → l.getD a 0 = l.getD b 0 → Conn R a b
  rg : RG (l.take i)
  next : nextOf (l.take i) = c
theorem take_snocD {l : List Int} {i : Nat} (h : i < l.length) : l.take (i + 1) = l.take i ++ [l.getD i 0] := by
  rw [List.take_succ_eq_append_getElem h, getD_getElem h]
theorem Out.skip {R : Nat → Nat → Prop} {n i : Nat} {l : List Int} {c : Int} (h : Out R n i l c) (hi : i < n) (h0 : 0 ≤ l.getD i 0) : Out R n (i + 1) l c := by
  have hb := h.bd i hi
  have hn := h.next
  refine ⟨h.len, h.bd, fun a ha hai => ?_, h.closed, h.conn, ?_, ?_⟩
  · by_cases e : a = i
    · subst e; exact h0
    · exact h.done a ha (by omega)
  · rw [take_snocD (by rw [h.len]; exact hi)]; exact h.rg.snoc h0 (by omega)
  · rw [take_snocD (by rw [h.len]; exact hi), nextOf_snoc, hn]; omega
theorem take_congrD {a b : List Int} (i : Nat) (hl : a.length = b.length) (hi : i ≤ a.length) (h : ∀ k, k < i → a.getD k 0 = b.getD k 0) : a.take i = b.take i := by
  apply List.ext_getElem (by rw [List.length_take, List.length_take, hl])
  intro k h1 h2
  rw [List.length_take] at h1
  have := h k (by omega)
  rw [getD_getElem (by omega), getD_getElem (by omega)] at this
  rw [List.getElem_take, List.getElem_take]
  exact this
theorem Out.visit {R : Nat → Nat → Prop} (hR : ∀ a b, R a b → R b a) {n i : Nat} {l l' : List Int} {c : Int} (h : Out R n i l c) (hi : i < n) (h0 : l.getD i 0 < 0) (v : Vis R n c i l l') : Out R n (i + 1) l' (c + 1) := by
  have hc0 : 0 ≤ c := by rw [← h.next]; exact (RG.facts _ _ rfl h.rg).1
  have hcl : ∀ a b, a < n → b < n → l.getD a 0 < 0 → l'.getD a 0 = c → R a b → l'.getD b 0 = c := fun a b ha hb h1 h2 hr => by
    have h3 := v.closed a b ha hb h1 h2 hr
    by_cases h4 : 0 ≤ l.getD b 0
    · have := h.closed b a hb ha h4 (hR _ _ hr)
      omega
    · rcases v.new b hb (by omega) with h5 | h5
      · omega
      · exact h5
  have hbd : ∀ a, a < n → l'.getD a 0 = -1 ∨ (0 ≤ l'.getD a 0 ∧ l'.getD a 0 < c + 1) := fun a ha => by
    rcases h.bd a ha with h1 | h1
    · rcases v.new a ha (by omega) with h2 | h2 <;> omega
    · have := v.keep a ha h1.1; omega
  have htk : l'.take i = l.take i := take_congrD i (by rw [v.len, h.len]) (by rw [v.len]; omega) fun k hk => v.keep k (by omega) (h.done k (by omega) hk)
  refine ⟨v.len, hbd, fun a ha hai => ?_, fun a b ha hb h1 hr => ?_, fun a b ha hb h1 h2 => ?_, ?_, ?_⟩
  · by_cases e : a = i
    · subst e; rw [v.root]; exact hc0
    · have h1 := h.done a ha (by omega)
      rw [v.keep a ha h1]; exact h1
  · by_cases h3 : 0 ≤ l.getD a 0
    · have h4 := h.closed a b ha hb h3 hr
      rw [v.keep a ha h3, v.keep b hb (by omega), h4]
    · have h4 : l'.getD a 0 = c := by rcases v.new a ha (by omega) with h5 | h5 <;> omega
      rw [hcl a b ha hb (by omega) h4 hr, h4]
  · by_cases h3 : 0 ≤ l.getD a 0
    · by_cases h4 : 0 ≤ l.getD b 0
      · exact h.conn a b ha hb h3 (by rw [← v.keep a ha h3, ← v.keep b hb h4]; exact h2)
      · have h5 := v.keep a ha h3
        have h6 : l.getD a 0 < c := by rcases h.bd a ha with h | h <;> omega
        rcases v.new b hb (by omega) with h7 | h7 <;> omega
    · have h5 : l'.getD a 0 = c := by rcases v.new a ha (by omega) with h5 | h5 <;> omega
      by_cases h4 : 0 ≤ l.getD b 0
      · have h6 := v.keep b hb h4
        have h7 : l.getD b 0 < c := by rcases h.bd b hb with h | h <;> omega
        omega
      · exact (v.conn a ha (by omega) h5).symm.trans (v.conn b hb (by omega) (by omega))
  · rw [take_snocD (by rw [v.len]; exact hi), htk, v.root]
    exact h.rg.snoc hc0 (by rw [h.next]; exact Int.le_refl _)
  · rw [take_snocD (by rw [v.len]; exact hi), htk, v.root, nextOf_snoc, h.next]; omega
theorem Out.start (R : Nat → Nat → Prop) (n : Nat) : Out R n 0 (List.replicate n (-1)) 0 := by
  have e : ∀ a, a < n → (List.replicate n (-1 : Int)).getD a 0 = -1 := fun a ha => by rw [getD_getElem (by rw [List.length_replicate]; exact ha), List.getElem_replicate]
  refine ⟨List.length_replicate, fun a ha => .inl (e a ha), fun a _ h => by omega, fun a b ha _ h => ?_, fun a b ha _ h => ?_, RG.nil, rfl⟩
  · rw [e a ha] at h; omega
  · rw [e a ha] at h; omega
theorem Out.fin {n : Nat} {R : Nat → Nat → Prop} (hR : ∀ a b, R a b → R b a) (hN : ∀ a b, R a b → a < n ∧ b < n) {l : List Int} {c : Int} (h : Out R n n l c) : l = compL n R := by
  have ht : l.take n = l := List.take_of_length_le (by rw [h.len]; exact Nat.le_refl _)
  refine IsComp.eq ⟨h.len, ht ▸ h.rg, fun i j hi hj => ⟨h.conn i j hi hj (h.done i hi hi), fun hc => ?_⟩⟩
  have := Conn.keep (S := fun b => b < n ∧ l.getD b 0 = l.getD i 0) (fun a b ⟨ha, he⟩ hl => by
    have hr : R a b := hl.elim id (hR _ _)
    have hb := (hN _ _ hr).2
    exact ⟨hb, (h.closed a b ha hb (h.done a ha ha) hr).trans he⟩) hc ⟨hi, rfl⟩
  exact this.2.symm

/-- in the loop over the row of i: the first k items are done -/
structure Row (R : Nat → Nat → Prop) (n : Nat) (c : Int) (i k : Nat) (l l' : List Int) : Prop where
  len : l'.length = n
  keep : ∀ a, a < n → 0 ≤ l.getD a 0 → l'.getD a 0 = l.getD a 0
  new : ∀ a, a < n → l.getD a 0 < 0 → l'.getD a 0 = l.getD a 0 ∨ l'.getD a 0 = c
  root : l'.getD i 0 = c
  conn : ∀ a, a < n → l.getD a 0 < 0 → l'.getD a 0 = c → Conn R i a
  closed : ∀ a b, a < n → b < n → a ≠ i → l.getD a 0 < 0 → l'.getD a 0 = c → R a b → 0 ≤ l'.getD b 0
  done : ∀ b, b < n → b < k → R i b → 0 ≤ l'.getD b 0
theorem Row.start {R : Nat → Nat → Prop} {n : Nat} {c : Int} {i : Nat} {l : List Int} (hl : l.length = n) (hi : i < n) (h0 : l.getD i 0 < 0) (hc : 0 ≤ c) : Row R n c i 0 l (l.set i c) := by
  have e : ∀ a, (l.set i c).getD a 0 = if a = i then c else l.getD a 0 := fun a => getD_set l i a c (by omega)
  refine ⟨by rw [List.length_set]; exact hl, fun a _ h => ?_, fun a _ h => ?_, ?_, fun a _ h1 h2 => ?_, fun a b _ _ hne h1 h2 _ => ?_, fun b _ h => by omega⟩
  · rw [e, if_neg (fun e => by subst e; omega)]
  · rw [e]; split
    · exact .inr rfl
    · exact .inl rfl
  · rw [e, if_pos rfl]
  · rw [e] at h2
    split at h2
    · rename_i ea; subst ea; exact .refl
    · omega
  · rw [e, if_neg hne] at h2; omega
theorem Row.skip {R : Nat → Nat → Prop} {n : Nat} {c : Int} {i k : Nat} {l l' : List Int} (h : Row R n c i k l l') (hk : R i k → 0 ≤ l'.getD k 0) : Row R n c i (k + 1) l l' :=
  ⟨h.len, h.keep, h.new, h.root, h.conn, h.closed, fun b hb hbk hr => by
    by_cases e : b = k
    · subst e; exact hk hr
    · exact h.done b hb (by omega) hr⟩
theorem Row.visit {R : Nat → Nat → Prop} {n : Nat} {c : Int} {i k : Nat} {l l1 l2 : List Int} (hc : 0 ≤ c) (h : Row R n c i k l l1) (hk : k < n) (hr : R i k) (h0 : l1.getD k 0 < 0) (v : Vis R n c k l1 l2) (hi : i < n) : Row R n c i (k + 1) l l2 := by
  have hkeep : ∀ a, a < n → 0 ≤ l1.getD a 0 → l2.getD a 0 = l1.getD a 0 := v.keep
  refine ⟨v.len, fun a ha h1 => ?_, fun a ha h1 => ?_, ?_, fun a ha h1 h2 => ?_, fun a b ha hb hne h1 h2 hab => ?_, fun b hb hbk hib => ?_⟩
  · have := h.keep a ha h1
    rw [hkeep a ha (by omega), this]
  · rcases h.new a ha h1 with h2 | h2
    · rcases v.new a ha (by omega) with h3 | h3
      · exact .inl (h3.trans h2)
      · exact .inr h3
    · exact .inr ((hkeep a ha (by omega)).trans h2)
  · rw [hkeep i hi (by rw [h.root]; exact hc), h.root]
  · rcases h.new a ha h1 with h3 | h3
    · exact (Conn.one hr).trans (v.conn a ha (by omega) h2)
    · exact h.conn a ha h1 h3
  · rcases h.new a ha h1 with h3 | h3
    · exact v.closed a b ha hb (by omega) h2 hab
    · have := h.closed a b ha hb hne h1 h3 hab
      rw [hkeep b hb this]; exact this
  · by_cases e : b = k
    · subst e; rw [v.root]; exact hc
    · have := h.done b hb (by omega) hib
      rw [hkeep b hb this]; exact this
theorem Row.fin {R : Nat → Nat → Prop} {n : Nat} {c : Int} {i : Nat} {l l' : List Int} (h : Row R n c i n l l') : Vis R n c i l l' :=
  ⟨h.len, h.keep, h.new, h.root, h.conn, fun a b ha hb h1 h2 hr => by
    by_cases e : a = i
    · subst e; exact h.done b hb hb hr
    · exact h.closed a b ha hb e h1 h2 hr⟩
/-- how many have no label -/
def negs (n : Nat) (l : List Int) : Nat := (List.range n).countP fun a => decide (l.getD a 0 < 0)
theorem countP_lt {p q : Nat → Bool} : ∀ (xs : List Nat), (∀ x ∈ xs, p x = true → q x = true) → (∃ x ∈ xs, p x = false ∧ q x = true) → xs.countP p < xs.countP q
  | [], _, ⟨x, hx, _⟩ => by cases hx
  | y :: ys, h1, ⟨x, hx, h2, h3⟩ => by
    have hle : ys.countP p ≤ ys.countP q := List.countP_mono_left fun z hz => h1 z (List.mem_cons_of_mem _ hz)
    rw [List.countP_cons, List.countP_cons]
    rcases List.mem_cons.1 hx with rfl | hx
    · rw [h2, h3]; simp; omega
    · have ih := countP_lt ys (fun z hz => h1 z (List.mem_cons_of_mem _ hz)) ⟨x, hx, h2, h3⟩
      have hy := h1 y (List.mem_cons_self ..)
      cases hp : p y with
      | false => simp only [hp, Bool.false_eq_true, if_false]; split <;> omega
      | true => rw [hy hp]; simp; exact ih
theorem Row.negs {R : Nat → Nat → Prop} {n : Nat} {c : Int} {i k : Nat} {l l' : List Int} (h : Row R n c i k l l') (hi : i < n) (h0 : l.getD i 0 < 0) (hc : 0 ≤ c) : Go.Proofs.YtidchfncfcckiaaGreat.negs n l' < Go.Proofs.YtidchfncfcckiaaGreat.negs n l := by
  unfold Go.Proofs.YtidchfncfcckiaaGreat.negs
  refine countP_lt _ (fun a ha h1 => ?_) ⟨i, List.mem_range.2 hi, ?_, ?_⟩
  · rw [decide_eq_true_eq] at h1 ⊢
    have ha := List.mem_range.1 ha
    by_cases h2 : 0 ≤ l.getD a 0
    · have := h.keep a ha h2; omega
    · omega
  · rw [decide_eq_false_iff_not, h.root]; omega
  · rw [decide_eq_true_eq]; exact h0
end Go.Proofs.YtidchfncfcckiaaGreat

namespace Go.Proofs.YtidchfncfcckiaaGreat
open Go.RowKit

set_option maxHeartbeats 400000 in
theorem markIntSS_c (v : Value) (xs : List (List Int)) (F : List Nat) (k : Int) (w : World) (h : OwnSl (slO intO) w v xs F) (hN : F.Nodup) (h0 : 0 ≤ k) (hb : k + (lstMk (lstMk intMk)).cnt xs ≤ 1152921504606846976) :
    Calls Tryz.prog 25 #[v, .int .i64 k] w fun e w2 => ∃ ys, e = .returned (.int .i64 (k + ((lstMk (lstMk intMk)).cnt xs : Nat))) ∧ OwnSl (slO intO) w2 v ys F ∧ (lstMk (lstMk intMk)).is k xs ys ∧ Chg F w w2 := by
  have hcn : (lstMk (lstMk intMk)).cnt xs = (lstMk intMk).sum xs := rfl
  rw [hcn] at hb ⊢
  obtain ⟨A, cap, rfl, hm⟩ := h.form
  go_enter Tryz.func25, Tryz.ntmps25
  go_wp2
  go_loopw [1, 5] (fun l i wr => ∃ (j : Nat) (ys : List (List Int)), j ≤ xs.length ∧ i = .int .i64 j ∧ l = .int .i64 (k + ((lstMk intMk).sum (xs.take j) : Nat)) ∧ OwnSl (slO intO) wr (.slice A xs.length cap) ys F ∧ Part (lstMk intMk) k xs ys j ∧ Chg F w wr) (fun _ i _ => xs.length - (intOf i).toNat)
  case atStart => exact ⟨0, xs, Nat.zero_le _, rfl, by simp [Mk.sum], h, .zero _ _ _, .refl _ _⟩
  case round =>
    obtain ⟨j, ys, hj, rfl, rfl, ho, hp, hc⟩ := hrel
    by_cases hlt : j < xs.length
    · obtain ⟨hy, hyx⟩ := hp.at_ hlt
      obtain ⟨g, off, cap2, c, F1, e, hg, hsub, hng, hN1, ⟨u, rfl, hu⟩, _, hcell, hfr, hin, _⟩ := ho.elem hN hy
      injection e with e1 e2 e3
      subst e1
      clear e2 e3
      have h1 : (slO intO).n = 1 := rfl
      have hc0 : wr.cell? ⟨g, off + j, none⟩ = some u := by simpa [h1] using hcell 0 (by omega)
      rw [hyx] at hu
      obtain ⟨A3, cap3, e3, _⟩ := hu.form
      subst e3
      have hst := (lstMk intMk).sum_step xs j hlt
      have hsa := (lstMk intMk).sum_at xs j hlt
      have HI := hid hin
      clear hin hcell hyx
      go_wp2_with fail
      refine (markIntS_c _ xs[j] F1 _ _ hu hN1 (by omega) (by omega)).mono ?_
      rintro e w2 ⟨zs, rfl, hz, hzi, hzc⟩
      have hst2 : k + (((lstMk intMk).sum (xs.take j) : Nat) : Int) + (((lstMk intMk).cnt xs[j] : Nat) : Int) = k + (((lstMk intMk).sum (xs.take (j + 1)) : Nat) : Int) := by omega
      rw [hst2]
      clear hst hst2 hsa
      go_wp2
      go_roundw
      case rel => exact ⟨j + 1, _, by omega, by go_num, rfl, HI.out w2 zs (fun b hb hn => hzc.block b (ho.lt b hb) hn) ⟨_, rfl, hz⟩, hp.step hlt hzi, hc.trans (hzc.mono hsub)⟩
      case measure => simp [intOf]; omega
    · go_wp2
      go_ret
      exact ⟨ys, ret_int (by rw [Mk.sum_all _ _ _ hlt]), ho, hp.all hlt, hc⟩

end Go.Proofs.YtidchfncfcckiaaGreat

namespace Go.Proofs.YtidchfncfcckiaaGreat
open Go.RowKit

theorem ownsRowG_lt {w : World} {base n : Nat} {e : TypeId} {m : Nat} {v : Value} {cs : List Value} (h : w.ownsRow base e n v m cs) : ∀ g, v.ownBlock = some g → g < w.heap.size ∧ base ≤ g := fun g hg => by
  rcases h.2 with ⟨rfl, _⟩ | ⟨g', cap, cur, rfl, hb, hh, _⟩
  · cases hg
  · injection hg with hg
    subst hg
    exact ⟨block_lt hh, hb⟩
theorem step_appg {P : Program} {ops : Array Oper} {o : Oper} {a : Act} {w : World} {K : Act → World → Prop} {Q : Exit → Act → World → Prop} {Z : Prop} {t e : TypeId} {bytes sz : Nat} (hsz : 0 < sz) (E : ElemT P t e sz bytes) (hby : bytes ≤ 128)
    (hgd : o.guard = none) (s x : Operand) (ho : o.op = .call { callee := .builtin .append, args := #[s, x], argTypes := #[t, t] })
    {base m : Nat} {v : Value} {cs : List Value} (hb : w.ownsRow base e sz v m cs) (hs : a.eval s = v) {A : Option Addr} {n k : Nat} (hx : a.eval x = .slice A n k) {news : List Value} (hl : news.length = n * sz)
    (hc : 0 < n → ∃ ad, A = some ad ∧ ∀ j u, news[j]? = some u → w.cell? (ad.add j) = some u) (h1 : ∀ u ∈ news, u.oneCell' = true)
    (hbytes : m + n ≤ 1099511627776) (hbase : base ≤ w.heap.size) {w0 : World} (h0 : w0.heap.size ≤ base) (hx0 : Ext w0 w)
    (h : ∀ v' w', w'.ownsRow base e sz v' (m + n) (cs ++ news) → Ext w0 w' → (∀ b, b < w.heap.size → v.ownBlock ≠ some b → w'.heap[b]? = w.heap[b]?) → K (a.put o.dst v') w') :
    if Region.wanted o (yielded ops a.tmps) = true then Oper.wp P o a w K Q else Z := by
  have hw : Region.wanted o (yielded ops a.tmps) = true := by simp [Region.wanted, hgd]
  rw [if_pos hw]
  obtain ⟨ht, i, z, hi, hz, hsize, hby2, hzs⟩ := E
  by_cases hm : 0 < n
  · obtain ⟨ad, rfl, hcc⟩ := hc hm
    refine wp_append_lies w s x t ho base e i z sz bytes ht hi hz hsize hby2 hzs hsz v m cs hs hb ad n k news hx hl hcc h1 hm (by unfold maxLen; omega)
      (Nat.le_trans (Nat.mul_le_mul (show m + n ≤ 1099511627776 by omega) hby) (by decide)) hbase w.heap.size rfl ?_
    intro g' cap w' hown hgr _ _
    exact h _ _ hown (hx0.grown hgr fun g hg => Nat.le_trans h0 (ownsRowG_lt hb g hg).2) fun b hb2 hne => hgr.block b hb2 (fun e => hne e.symm)
  · have hn0 : n = 0 := by omega
    subst hn0
    have hys : news = [] := List.eq_nil_of_length_eq_zero (by rw [hl, Nat.zero_mul])
    subst hys
    have hb0 := hb
    have hr : (Builtin.append_ #[t, t] o.type #[v, .slice A 0 k]).run P w = .ok v w := by
      rcases hb.2 with ⟨rfl, _⟩ | ⟨g, cap, cur, rfl, _, _, hnc, _⟩
      · cases A <;> simp [Builtin.append_, run_underlying ht, sizeOf, typeInfo, hi, Builtin.lenOf, Builtin.firstCells, storeCells, loadCells, loadCellsFrom]
      · cases A <;> simp [Builtin.append_, run_underlying ht, sizeOf, typeInfo, hi, Builtin.lenOf, Builtin.firstCells, hnc, storeCells, loadCells, loadCellsFrom]
    unfold Oper.wp execOp
    simp only [ho, resolve, invoke, builtin, Sem.run_bind, Sem.run_pure, Result.andThen_ok, List.map_toArray, List.map_cons, List.map_nil, hs, hx, hr]
    exact h v w (by rw [List.append_nil]; exact hb0) hx0 fun _ _ _ => rfl

theorem Sl.cells_at {α : Type} {R : Rep α} {w : World} : ∀ (xs : List α) (b off : Nat), (∀ i (hi : i < xs.length), ∃ cs, R.rd w cs xs[i] ∧ ∀ j, j < R.n → w.cell? ⟨b, off + i * R.n + j, none⟩ = cs[j]?) →
    ∃ cs, OwnCells (atO R w) w cs xs [] ∧ cs.length = xs.length * R.n ∧ ∀ j, j < xs.length * R.n → w.cell? ⟨b, off + j, none⟩ = cs[j]?
  | [], b, off, _ => ⟨[], .nil, by simp, fun j hj => by simp at hj⟩
  | x :: xs, b, off, h => by
    obtain ⟨c, h1, h2⟩ := h 0 (by simp)
    obtain ⟨d, k1, k2, k3⟩ := Sl.cells_at xs b (off + R.n) (fun i hi => by
      obtain ⟨cs, a1, a2⟩ := h (i + 1) (by simpa using hi)
      refine ⟨cs, by simpa using a1, fun j hj => ?_⟩
      rw [← a2 j hj, Nat.add_mul, show off + R.n + i * R.n + j = off + (i * R.n + 1 * R.n) + j by omega])
    have hc : c.length = R.n := R.len h1
    refine ⟨c ++ d, ⟨c, d, [], [], rfl, rfl, ⟨by simpa using h1, rfl⟩, k1⟩, ?_, fun j hj => ?_⟩
    · rw [List.length_append, hc, k2, List.length_cons, Nat.add_mul]; omega
    · rw [List.length_cons, Nat.add_mul, Nat.one_mul] at hj
      by_cases hlt : j < R.n
      · rw [List.getElem?_append_left (by omega), ← h2 j hlt]
        simp
      · rw [List.getElem?_append_right (by omega), hc, ← k3 (j - R.n) (by omega), show off + R.n + (j - R.n) = off + j by omega]
/-- a slice's cells -/
theorem Sl.cells_ {α : Type} {R : Rep α} {w : World} {A : Option Addr} {n k : Nat} {ys : List α} (h : Sl R w (.slice A n k) ys) : ∃ cs, OwnCells (atO R w) w cs ys [] ∧ cs.length = n * R.n ∧ (0 < n → ∃ ad, A = some ad ∧ ∀ (W : World), Ext w W → ∀ j u, cs[j]? = some u → W.cell? (ad.add j) = some u) := by
  have hn : n = ys.length := h.cap_.1
  subst hn
  cases hy : ys with
  | nil => exact ⟨[], .nil, by simp, fun h => by simp at h⟩
  | cons y l =>
    rw [← hy]
    have h0 : 0 < ys.length := by rw [hy]; simp
    obtain ⟨b, off, _, e, _⟩ := h.at_ h0
    subst e
    obtain ⟨cs, k1, k2, k3⟩ := Sl.cells_at ys b off (fun i hi => by
      obtain ⟨b2, off2, c, e, a1, a2⟩ := h.at_ hi
      injection e with e
      injection e with e1 e2 _
      subst e1
      subst e2
      exact ⟨c, a1, a2⟩)
    refine ⟨cs, k1, k2, fun _ => ⟨_, rfl, fun W hW j u hu => ?_⟩⟩
    have hj : j < ys.length * R.n := by rw [← k2]; exact (List.getElem?_eq_some_iff.1 hu).1
    rw [show (⟨b, off, none⟩ : Addr).add j = ⟨b, off + j, none⟩ by by_cases h0 : j = 0 <;> simp [Addr.add, h0]]
    exact hW.cell ((k3 j hj).trans hu)
/-- such elements, appended -/
theorem step_appS {P : Program} {α : Type} {R : Rep α} {ops : Array Oper} {o : Oper} {a : Act} {w : World} {K : Act → World → Prop} {Q : Exit → Act → World → Prop} {Z : Prop} {t e : TypeId} {bytes : Nat} (hsz : 0 < R.n) (E : ElemT P t e R.n bytes) (hby : bytes ≤ 128)
    (hone : ∀ (w : World) cs x, R.rd w cs x → ∀ u ∈ cs, u.oneCell' = true)
    (hgd : o.guard = none) (s x : Operand) (ho : o.op = .call { callee := .builtin .append, args := #[s, x], argTypes := #[t, t] })
    {base : Nat} {v : Value} {xs ys : List α} {w1 : World} (hb : Bld (atO R w1) w base e v xs []) (hs : a.eval s = v) {A : Option Addr} {n k : Nat} (hx : a.eval x = .slice A n k) (hy : Sl R w1 (.slice A n k) ys) (hxw : Ext w1 w)
    (hbytes : xs.length + n ≤ 1099511627776) (hbase : base ≤ w.heap.size) {w0 : World} (h0 : w0.heap.size ≤ base) (hx0 : Ext w0 w)
    (h : ∀ v' w', Bld (atO R w1) w' base e v' (xs ++ ys) [] → Ext w0 w' → (∀ b, b < w.heap.size → v.ownBlock ≠ some b → w'.heap[b]? = w.heap[b]?) → K (a.put o.dst v') w') :
    if Region.wanted o (yielded ops a.tmps) = true then Oper.wp P o a w K Q else Z := by
  obtain ⟨news, k1, k2, k3⟩ := hy.cells_
  have hn : n = ys.length := hy.cap_.1
  obtain ⟨cs, b1, b2, b3, b4, b5⟩ := hb
  have one : ∀ {xs : List α} {cs : List Value} {F : List Nat}, OwnCells (atO R w1) w1 cs xs F → ∀ u ∈ cs, u.oneCell' = true := by
    intro xs
    induction xs with
    | nil => intro cs F h u hu; rw [h.1] at hu; cases hu
    | cons x xs ih =>
      rintro cs F ⟨c, d, F1, F2, rfl, _, ⟨h2, _⟩, h4⟩ u hu
      rcases List.mem_append.1 hu with hu | hu
      · exact hone w1 c x h2 u hu
      · exact ih h4 u hu
  refine step_appg hsz E hby hgd s x ho b1 hs hx k2 (fun hp => by
    obtain ⟨ad, e1, e2⟩ := k3 hp
    exact ⟨ad, e1, fun j u hu => e2 w hxw j u hu⟩) (one k1) hbytes hbase h0 hx0 ?_
  intro v' w' hown hE hk
  refine h v' w' ⟨cs ++ news, by rw [List.length_append, ← hn]; exact hown, ?_, fun _ _ hm => (by cases hm), List.nodup_nil, fun _ hm => by cases hm⟩ hE hk
  have := OwnCells.append (b2.keep (w2 := w') fun b hb => by cases hb) (k1.keep (w2 := w') fun b hb => by cases hb)
  simpa using this
end Go.Proofs.YtidchfncfcckiaaGreat

namespace Go.Proofs.YtidchfncfcckiaaGreat
open Go.RowKit
theorem cntIntS_le (xs : List Int) : (lstMk intMk).cnt xs ≤ xs.length := Nat.le_of_eq (intMk_sum xs)
theorem cntIntSS_le (xs : List (List Int)) : (lstMk (lstMk intMk)).cnt xs ≤ xs.length + sumLen xs := by
  have e : (lstMk (lstMk intMk)).cnt xs = sumLen xs := by
    show ((xs.map (lstMk intMk).cnt).sum) = (xs.map List.length).sum
    congr 1
    refine List.map_congr_left fun x _ => intMk_sum x
  omega
theorem sum_bd {α : Type} (M : Mk α) (xs : List α) (b : Nat) (h : ∀ x ∈ xs, M.cnt x ≤ b) : M.sum xs ≤ xs.length * b := by
  induction xs with
  | nil => simp [Mk.sum]
  | cons x xs ih =>
    have h1 := h x (List.mem_cons_self ..)
    have h2 := ih fun y hy => h y (List.mem_cons_of_mem _ hy)
    unfold Mk.sum at h2 ⊢
    simp only [List.map_cons, List.sum_cons, List.length_cons, Nat.add_mul]
    omega
end Go.Proofs.YtidchfncfcckiaaGreat
