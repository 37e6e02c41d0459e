/-
  PLAIN LAWS, OF NO PROGRAM: how data lie in memory. 'Ext w w2': all that there was in w stands in w2. 'Rep': how a value of a Lean type lies in cells.
-/
import Derived.WalkKit
import Derived.WalkSpells
import Derived.WalkLawsBesides
import Derived.ProofKit
import Derived.Deep.Slices
import Derived.Deep.Fields
import Derived.Deep.QuietTactic
import Derived.BigQuiet
import Derived.StillTailTactics
namespace Go.Proofs.Ytblggajfdhjmjaa
open Go.RowKit Go.ChangeShapes Go.WideShapes

/-- a fact kept from the walk -/
theorem hid {p : Prop} (h : p) : Hid p := h

theorem ret_int {k : IntKind} {a b : Int} (h : a = b) : Ending.returned (.int k a) = .returned (.int k b) := by rw [h]
theorem ret_bool {a b : Bool} (h : a = b) : Ending.returned (.bool a) = .returned (.bool b) := by rw [h]

/-- are they one? -/
noncomputable def eqB {α : Type} (x y : α) : Bool := @decide (x = y) (Classical.propDecidable _)
theorem eqB_iff {α : Type} (x y : α) : eqB x y = true ↔ x = y := by unfold eqB; exact @decide_eq_true_iff _ (Classical.propDecidable _)
theorem eqB_self {α : Type} (x : α) : eqB x x = true := (eqB_iff x x).2 rfl
theorem eqB_true {α : Type} {x y : α} (h : x = y) : eqB x y = true := (eqB_iff x y).2 h
theorem eqB_false {α : Type} {x y : α} (h : ¬ x = y) : eqB x y = false := by
  cases hb : eqB x y
  · rfl
  · exact absurd ((eqB_iff x y).1 hb) h
theorem ne_of_at {α : Type} {xs ys : List α} {k : Nat} (h1 : k < xs.length) (h2 : k < ys.length) (h : ¬ xs[k] = ys[k]) : ¬ xs = ys := fun e => by subst e; exact h rfl
theorem take_snoc_eq {α : Type} {xs ys : List α} {k : Nat} (h1 : k < xs.length) (h2 : k < ys.length) (h : xs[k] = ys[k]) (ht : xs.take k = ys.take k) : xs.take (k + 1) = ys.take (k + 1) := by
  rw [List.take_succ_eq_append_getElem h1, List.take_succ_eq_append_getElem h2, ht, h]
theorem eq_of_take {α : Type} {xs ys : List α} {k : Nat} (h1 : ¬ k < xs.length) (hl : xs.length = ys.length) (ht : xs.take k = ys.take k) : xs = ys := by
  rwa [List.take_of_length_le (by omega), List.take_of_length_le (by omega)] at ht

/-- '==' on strings, as the walk writes it -/
theorem str_eq {a b : ByteArray} (h : a = b) : (a.toList == b.toList) = true := by simp [h]
theorem str_ne {a b : ByteArray} (h : ¬ a = b) : (a.toList == b.toList) = false := by
  rw [beq_eq_false_iff_ne]
  intro e
  rw [ByteArray.toList_eq, ByteArray.toList_eq] at e
  exact h (bytes_inj e)

/-- all that there was in w stands in w2 -/
def Ext (w w2 : World) : Prop := Below w.heap.size w w2
theorem Ext.refl (w : World) : Ext w w := Below.refl _ _
theorem Ext.trans {a b c : World} (h : Ext a b) (k : Ext b c) : Ext a c := Below.trans h (Below.mono k h.size)
theorem Ext.size {a b : World} (h : Ext a b) : a.heap.size ≤ b.heap.size := Below.size h
theorem Ext.drew {a b : World} (h : Ext a b) : Ext a b.drew := Below.drew h
theorem Ext.drewN {a b : World} (h : Ext a b) (n : Nat) : Ext a (b.drewN n) := ⟨h.os, h.tape, h.output, h.size, h.block⟩
theorem Ext.alloc {a b : World} (h : Ext a b) (o : Obj) : Ext a (b.alloc o) := Below.alloc h h.size o
theorem Ext.setCell {a b : World} (h : Ext a b) {p : Addr} (hp : a.heap.size ≤ p.block) (u : Value) : Ext a (b.setCell p u) := Below.setCell h hp u
theorem Ext.grown {a b c : World} {row : Option Nat} (h : Ext a b) (hg : b.grownBy c row) (hr : ∀ k, row = some k → a.heap.size ≤ k) : Ext a c := Below.grown h hg h.size hr
theorem Ext.cell {a b : World} (h : Ext a b) {p : Addr} {u : Value} (hc : a.cell? p = some u) : b.cell? p = some u :=
  (Below.cell h (World.block_lt_of_cell? a p hc)).trans hc
theorem Ext.block {a b : World} (h : Ext a b) {k : Nat} (hk : k < a.heap.size) : b.heap[k]? = a.heap[k]? := Below.block h k hk

theorem Ext.cells {a b : World} (h : Ext a b) : (∀ k o, k < a.heap.size → b.cell? ⟨k, o, none⟩ = a.cell? ⟨k, o, none⟩) ∧ (∀ k o, k < a.heap.size → b.frozen? ⟨k, o, none⟩ = a.frozen? ⟨k, o, none⟩) :=
  ⟨fun k o hk => Below.cell h (p := ⟨k, o, none⟩) hk, fun k o hk => Below.frozen h (p := ⟨k, o, none⟩) hk⟩
/-- a block of the call's own that was laid last: it stands -/
theorem Ext.box {w w2 : World} {cs : Array Value} {T : TypeId} (h : Ext (w.alloc (.cells cs T)) w2) :
    (∀ i, w2.cell? ⟨w.heap.size, i, none⟩ = cs[i]?) ∧ (∀ i, w2.frozen? ⟨w.heap.size, i, none⟩ = false) := by
  have hh : w2.heap[w.heap.size]? = some (.cells cs T (0, 0)) := (Below.block h w.heap.size (by simp)).trans (heap_alloc_new w _)
  exact ⟨fun i => cell_of_row w2 w.heap.size i cs T (0, 0) hh, fun i => frozen_of_row w2 w.heap.size i cs T hh⟩
theorem Ext.box1 {w w2 : World} {o : Obj} {cs : Array Value} {T : TypeId} (h : Ext ((w.alloc o).alloc (.cells cs T)) w2) :
    (∀ i, w2.cell? ⟨w.heap.size + 1, i, none⟩ = cs[i]?) ∧ (∀ i, w2.frozen? ⟨w.heap.size + 1, i, none⟩ = false) := by
  have := h.box
  simpa using this
theorem Ext.box2 {w w2 : World} {o o2 : Obj} {cs : Array Value} {T : TypeId} (h : Ext (((w.alloc o).alloc o2).alloc (.cells cs T)) w2) :
    (∀ i, w2.cell? ⟨w.heap.size + 1 + 1, i, none⟩ = cs[i]?) ∧ (∀ i, w2.frozen? ⟨w.heap.size + 1 + 1, i, none⟩ = false) := by
  have := h.box
  simpa using this
theorem Ext.of_eq {a b : World} (h : a = b) : Ext a b := h ▸ Ext.refl a

/-! ### A region that draws its order: reads and quiet calls, then one operation that writes -/
theorem still_of_quiet {P : Program} {ops : Array Oper} {w : World} {Q : Act → Prop} : ∀ (l : List Oper) (a : Act), wpQuiet P ops (fun w2 => w2 = w) Q l a → wpStill P ops w Q l a
  | [], _, h => h
  | o :: l, a, h => by
    unfold wpQuiet at h
    unfold wpStill
    split
    · rename_i hw
      rw [if_pos hw] at h
      obtain ⟨v, h1, h2⟩ := h
      have h3 := h1 w rfl
      unfold Oper.quietAt at h3
      unfold Oper.still
      generalize (execOp a.eval o).run P w = r at h3 ⊢
      cases r with
      | ok n w2 =>
        cases n <;> simp only [Oper.quietUpon] at h3 <;> simp only [Oper.stillUpon]
        case value u => exact ⟨h3.1, by rw [h3.2]; exact still_of_quiet l _ h2⟩
        case skip => exact ⟨h3.1, by rw [← h3.2]; exact still_of_quiet l _ h2⟩
        case enter f args => exact ⟨h3.1, v, h3.2, still_of_quiet l _ h2⟩
      | halt x w2 => simp only [Oper.quietUpon] at h3
    · rename_i hw
      rw [if_neg hw] at h
      exact still_of_quiet l _ h
theorem wp_region_tail {P : Program} {id : Nat} {Q : Exit → Act → World → Prop} {a : Act} {w wd : World} {l : List Oper} (n : Nat) (hw : wd = w.drew) (hm : P.follows .mixedOrders = true) (hB : Region.lexTailB .any l.toArray n = true)
    (h : wpQuiet P l.toArray (fun w2 => ∃ _ : Unit, w2 = wd) (fun a2 => wpList P l.toArray Q (l.drop n) a2 wd) (l.take n) a) : (Code.region id l.toArray true).wp P Q a w := by
  subst hw
  refine wp_region_still_tail n hm hB (still_of_quiet _ _ ?_)
  have e : (fun w2 : World => ∃ _ : Unit, w2 = w.drew) = fun w2 => w2 = w.drew := funext fun w2 => propext ⟨fun ⟨_, h⟩ => h, fun h => ⟨(), h⟩⟩
  rwa [e] at h

/-! ### A region that draws its order: its operations read, its calls hand back values that hang on no world -/
def ExtOf (W : World) := {w1 : World // Ext W w1}
instance (W : World) : Nonempty (ExtOf W) := ⟨⟨W, Ext.refl W⟩⟩
theorem Ext.boxes {w W : World} {cs : Array Value} {T : TypeId} (h : Ext (w.alloc (.cells cs T)) W) :
    (∀ i, W.cell? ⟨w.heap.size, i, none⟩ = cs[i]?) ∧ ∀ z : ExtOf W, ∀ i, z.1.cell? ⟨w.heap.size, i, none⟩ = cs[i]? :=
  ⟨h.box.1, fun z => (h.trans z.2).box.1⟩
theorem Ext.boxes1 {w W : World} {o : Obj} {cs : Array Value} {T : TypeId} (h : Ext ((w.alloc o).alloc (.cells cs T)) W) :
    (∀ i, W.cell? ⟨w.heap.size + 1, i, none⟩ = cs[i]?) ∧ ∀ z : ExtOf W, ∀ i, z.1.cell? ⟨w.heap.size + 1, i, none⟩ = cs[i]? :=
  ⟨h.box1.1, fun z => (h.trans z.2).box1.1⟩
theorem wp_region_ext {P : Program} {id : Nat} {Q : Exit → Act → World → Prop} {a : Act} {w : World} {l : List Oper} (hm : P.follows .mixedOrders = true) (hB : Region.lexB .any l.toArray = true)
    (h : wpQuiet P l.toArray (fun w1 => ∃ z : ExtOf w, w1 = z.1) (fun a2 => ∀ w1, (∃ z : ExtOf w, w1 = z.1) → Q .normal a2 w1) l a) : (Code.region id l.toArray true).wp P Q a w :=
  wp_region_quiet (C := fun w1 => ∃ z : ExtOf w, w1 = z.1) hm hB ⟨⟨_, (Ext.refl w).drew⟩, rfl⟩ (by simpa using h)
theorem quiet_ext {P : Program} {f : FuncId} {args : Array Value} {W : World} {z : ExtOf W} {v : Value} (h : Calls P f args z.1 fun e w2 => e = .returned v ∧ Ext z.1 w2) :
    Calls P f args z.1 fun e w2 => e = .returned v ∧ ∃ z2 : ExtOf W, w2 = z2.1 :=
  h.mono fun _ w2 ⟨he, hx⟩ => ⟨he, ⟨w2, z.2.trans hx⟩, rfl⟩
theorem quiet_tail {P : Program} {f : FuncId} {args : Array Value} {W : World} {v : Value} (h : Calls P f args W fun e w2 => e = .returned v ∧ W = w2) :
    Calls P f args W fun e w2 => e = .returned v ∧ w2 = W :=
  h.mono fun _ _ ⟨he, hx⟩ => ⟨he, hx.symm⟩
theorem quiet_same {P : Program} {f : FuncId} {args : Array Value} {W : World} {z : ExtOf W} {v : Value} (h : Calls P f args z.1 fun e w2 => e = .returned v ∧ z.1 = w2) :
    Calls P f args z.1 fun e w2 => e = .returned v ∧ ∃ z2 : ExtOf W, w2 = z2.1 :=
  h.mono fun _ _ ⟨he, hx⟩ => ⟨he, z, hx.symm⟩

def I64 (x : Int) : Prop := -9223372036854775808 ≤ x ∧ x ≤ 9223372036854775807
theorem I64.out {x : Int} (h : I64 x) : -9223372036854775808 ≤ x ∧ x ≤ 9223372036854775807 := h

/-- How a value of a Lean type lies in n cells. -/
structure Rep (α : Type) where
  n : Nat
  rd : World → List Value → α → Prop
  len : ∀ {w cs x}, rd w cs x → cs.length = n
  mono : ∀ {w w2 cs x}, Ext w w2 → rd w cs x → rd w2 cs x

def intR : Rep Int := ⟨1, fun _ cs x => cs = [.int .i64 x] ∧ I64 x, fun h => by simp [h.1], fun _ h => h⟩
def boolR : Rep Bool := ⟨1, fun _ cs x => cs = [.bool x], fun h => by rw [h]; rfl, fun _ h => h⟩
def strR : Rep ByteArray := ⟨1, fun _ cs s => cs = [.string s] ∧ s.size ≤ maxLen, fun h => by simp [h.1], fun _ h => h⟩

/-- the slice value v reads as the list xs -/
def Sl {α : Type} (R : Rep α) (w : World) (v : Value) (xs : List α) : Prop :=
  ∃ A cap, v = .slice A xs.length cap ∧ (xs.length ≤ cap ∧ cap ≤ maxLen) ∧ ∀ i (h : i < xs.length), ∃ b off cs, A = some ⟨b, off, none⟩ ∧ R.rd w cs xs[i] ∧
    ∀ j, j < R.n → w.cell? ⟨b, off + i * R.n + j, none⟩ = cs[j]?

theorem Sl.mono {α : Type} {R : Rep α} {w w2 : World} {v : Value} {xs : List α} (e : Ext w w2) (h : Sl R w v xs) : Sl R w2 v xs := by
  obtain ⟨A, cap, rfl, hm, hi⟩ := h
  refine ⟨A, cap, rfl, hm, fun i h => ?_⟩
  obtain ⟨b, off, cs, rfl, hr, hc⟩ := hi i h
  refine ⟨b, off, cs, rfl, R.mono e hr, fun j hj => ?_⟩
  have hl := R.len hr
  have hj' : j < cs.length := by omega
  have h1 := hc j hj
  rw [List.getElem?_eq_getElem hj'] at h1 ⊢
  exact e.cell h1

def slR {α : Type} (R : Rep α) : Rep (List α) := ⟨1, fun w cs xs => ∃ v, cs = [v] ∧ Sl R w v xs, fun ⟨_, h, _⟩ => by rw [h]; rfl, fun e ⟨v, h, k⟩ => ⟨v, h, k.mono e⟩⟩

/-- at index i: the address, and the cells -/
theorem Sl.at_ {α : Type} {R : Rep α} {w : World} {A : Option Addr} {n cap : Nat} {xs : List α} (h : Sl R w (.slice A n cap) xs) {i : Nat} (hi : i < xs.length) :
    ∃ b off cs, A = some ⟨b, off, none⟩ ∧ R.rd w cs xs[i] ∧ ∀ j, j < R.n → w.cell? ⟨b, off + i * R.n + j, none⟩ = cs[j]? := by
  obtain ⟨A', cap', he, hm, hh⟩ := h
  injection he with e1 e2 e3
  subst e1
  exact hh i hi
theorem Sl.cap_ {α : Type} {R : Rep α} {w : World} {A : Option Addr} {n cap : Nat} {xs : List α} (h : Sl R w (.slice A n cap) xs) : n = xs.length ∧ xs.length ≤ cap ∧ cap ≤ 9223372036854775807 := by
  obtain ⟨A', cap', he, hm, hh⟩ := h
  injection he with e1 e2 e3
  subst e3
  unfold maxLen at hm
  exact ⟨e2, hm.1, by omega⟩
/-- the first k, 's[:k]' -/
theorem Sl.take {α : Type} {R : Rep α} {w : World} {A : Option Addr} {n cap k : Nat} {xs : List α} (h : Sl R w (.slice A n cap) xs) (hk : k ≤ xs.length) : Sl R w (.slice A k cap) (xs.take k) := by
  obtain ⟨A', cap', he, hm, hh⟩ := h
  injection he with e1 e2 e3
  subst e1; subst e3
  have hl : (xs.take k).length = k := by simp; omega
  refine ⟨A, cap, by rw [hl], ⟨by omega, hm.2⟩, fun i hi => ?_⟩
  obtain ⟨b, off, cs, h1, h2, h3⟩ := hh i (by omega)
  exact ⟨b, off, cs, h1, by simpa using h2, h3⟩
theorem Sl.form {α : Type} {R : Rep α} {w : World} {v : Value} {xs : List α} (h : Sl R w v xs) : ∃ A cap, v = .slice A xs.length cap ∧ xs.length ≤ 9223372036854775807 := by
  obtain ⟨A, cap, he, hm, _⟩ := h
  exact ⟨A, cap, he, by unfold maxLen at hm; omega⟩

/-- a slice of ints, of bools, of strings: the one cell -/
theorem Sl.int {w : World} {A : Option Addr} {n cap : Nat} {xs : List Int} (h : Sl intR w (.slice A n cap) xs) {i : Nat} (hi : i < xs.length) :
    ∃ b off, A = some ⟨b, off, none⟩ ∧ I64 xs[i] ∧ w.cell? ⟨b, off + i, none⟩ = some (.int .i64 xs[i]) := by
  obtain ⟨b, off, cs, rfl, ⟨rfl, hr⟩, hc⟩ := h.at_ hi
  exact ⟨b, off, rfl, hr, by simpa [intR] using hc 0 (by simp [intR])⟩
theorem Sl.str {w : World} {A : Option Addr} {n cap : Nat} {xs : List ByteArray} (h : Sl strR w (.slice A n cap) xs) {i : Nat} (hi : i < xs.length) :
    ∃ b off, A = some ⟨b, off, none⟩ ∧ xs[i].size ≤ maxLen ∧ w.cell? ⟨b, off + i, none⟩ = some (.string xs[i]) := by
  obtain ⟨b, off, cs, rfl, ⟨rfl, hr⟩, hc⟩ := h.at_ hi
  exact ⟨b, off, rfl, hr, by simpa [strR] using hc 0 (by simp [strR])⟩
theorem Sl.sl {α : Type} {R : Rep α} {w : World} {A : Option Addr} {n cap : Nat} {xs : List (List α)} (h : Sl (slR R) w (.slice A n cap) xs) {i : Nat} (hi : i < xs.length) :
    ∃ b off A2 cap2, A = some ⟨b, off, none⟩ ∧ Sl R w (.slice A2 xs[i].length cap2) xs[i] ∧ w.cell? ⟨b, off + i, none⟩ = some (.slice A2 xs[i].length cap2) := by
  obtain ⟨b, off, cs, rfl, ⟨v, rfl, hr⟩, hc⟩ := h.at_ hi
  have hr' := hr
  obtain ⟨A2, cap2, rfl, _⟩ := hr
  exact ⟨b, off, A2, cap2, rfl, hr', by simpa [slR] using hc 0 (by simp [slR])⟩

/-- a new block of ints, as a slice -/
theorem Sl.new_ints (W : World) (xs : List Int) (T : TypeId) (n g : Nat) (hg : g = W.heap.size) (hn : n = xs.length) (h : ∀ x ∈ xs, I64 x) (hl : xs.length ≤ maxLen) :
    Sl intR (W.alloc (.cells (xs.map (Value.int .i64)).toArray T)) (.slice (some ⟨g, 0, none⟩) n n) xs := by
  subst hg
  subst hn
  refine ⟨_, _, rfl, ⟨Nat.le_refl _, hl⟩, fun i hi => ⟨_, _, _, rfl, ⟨rfl, h _ (List.getElem_mem hi)⟩, fun j hj => ?_⟩⟩
  have hj0 : j = 0 := by simp [intR] at hj; omega
  subst hj0
  rw [((Ext.refl _).box).1]
  simp [intR, hi]

/-! ### Readings of arguments -/

/-- values of type e of program P lie as R says, whenever they can be read -/
def Reads {α : Type} (P : Program) (e : TypeId) (R : Rep α) : Prop :=
  P.cellsOf e = R.n ∧ ∀ {H : Type} {enc : TypeId × Value → H} {w : World} {base : Nat} {spare : Nat → Bool} {held : Bool} {fuel : Nat} {cs : List Value} {x : DataW H × List MemPlace},
    DataW.trod enc P w base spare held fuel e cs = some x → ∃ a, R.rd w cs a

theorem wf_i64 {n : Int} (h : (Lit.int .i64 n).wf = true) : I64 n := by
  simpa [Lit.wf, IntKind.min, IntKind.max, IntKind.signed, IntKind.bits, I64] using h

theorem reads_int {P : Program} {e : TypeId} (he : P.underlying e = some (.int .i64)) (hc : P.cellsOf e = 1) : Reads P e intR :=
  ⟨hc, fun h => by
    obtain ⟨n, rfl, _, hw⟩ := DataW.trod_int he h
    exact ⟨n, rfl, wf_i64 hw⟩⟩
theorem reads_bool {P : Program} {e : TypeId} (he : P.underlying e = some .bool) (hc : P.cellsOf e = 1) : Reads P e boolR :=
  ⟨hc, fun h => by
    obtain ⟨n, rfl, _⟩ := DataW.trod_bool he h
    exact ⟨n, rfl⟩⟩
theorem reads_string {P : Program} {e : TypeId} (he : P.underlying e = some .string) (hc : P.cellsOf e = 1) : Reads P e strR :=
  ⟨hc, fun h => by
    obtain ⟨n, rfl, _, hs⟩ := DataW.trod_string he h
    exact ⟨n, rfl, hs⟩⟩

theorem choose_list {α : Type} {n : Nat} {p : Nat → α → Prop} (h : ∀ i, i < n → ∃ x, p i x) : ∃ l : List α, l.length = n ∧ ∀ i (hi : i < l.length), p i l[i] := by
  induction n with
  | zero => exact ⟨[], rfl, fun i hi => by simp at hi⟩
  | succ n ih =>
    obtain ⟨l, hl, hp⟩ := ih (fun i hi => h i (by omega))
    obtain ⟨x, hx⟩ := h n (by omega)
    refine ⟨l ++ [x], by simp [hl], fun i hi => ?_⟩
    by_cases hin : i < l.length
    · rw [List.getElem_append_left hin]; exact hp i hin
    · have : i = n := by simp at hi; omega
      subst this
      rw [List.getElem_append_right (by omega)]
      simpa [hl] using hx

theorem spot_none {w : World} {a : Addr} {u : Value} (h : w.cell? a = some u) : a.spot = none := by
  unfold World.cell? at h
  split at h
  · cases hs : a.spot with
    | none => rfl
    | some _ => simp [hs] at h
  · cases h

theorem add_eq {b off n : Nat} : (⟨b, off, none⟩ : Addr).add n = ⟨b, off + n, none⟩ := by
  unfold Addr.add; split <;> simp_all

theorem reads_slice {α : Type} {P : Program} {t e : TypeId} {R : Rep α} (ht : P.underlying t = some (.slice e)) (hc : P.cellsOf t = 1) (hn : 0 < R.n) (he : Reads P e R) : Reads P t (slR R) := by
  refine ⟨hc, fun {H enc w base spare held fuel cs x} h => ?_⟩
  rcases DataW.trod_slice ht h with ⟨rfl, _⟩ | ⟨a, len, cap, elems, rest, n, _, rfl, _, _, hl, hm, hel, hi, _⟩
  · exact ⟨[], _, rfl, none, 0, rfl, ⟨Nat.le_refl _, Nat.zero_le _⟩, fun i hi => by simp at hi⟩
  · have key : ∀ i, i < len → ∃ y : α, ∃ cs, R.rd w cs y ∧ ∀ j, j < R.n → w.cell? (a.add (i * R.n + j)) = cs[j]? := by
      intro i hilt
      have h1 := hi i hilt
      have h2 : elems[i]? = some (elems[i]'(by omega)) := List.getElem?_eq_getElem (by omega)
      rw [h2, he.1] at h1
      obtain ⟨cs', hcs, htr⟩ := Option.bind_eq_some_iff.1 h1
      obtain ⟨y, hy⟩ := he.2 htr
      obtain ⟨_, _, hat⟩ := World.cells?_some hcs
      exact ⟨y, cs', hy, fun j hj => by rw [← Go.Deep.add_add]; exact hat j hj⟩
    obtain ⟨xs, hxl, hxs⟩ := choose_list key
    subst hxl
    refine ⟨xs, _, rfl, some a, cap, rfl, ⟨hl, hm⟩, fun i hi' => ?_⟩
    obtain ⟨cs', hy, hcell⟩ := hxs i hi'
    have hl0 : ∃ u, w.cell? (a.add (0 * R.n + 0)) = some u := by
      obtain ⟨cs0, hr0, hc0⟩ := hxs 0 (by omega)
      have := R.len hr0
      exact ⟨cs0[0]'(by omega), by rw [hc0 0 hn, List.getElem?_eq_getElem]⟩
    obtain ⟨u, hu⟩ := hl0
    have hsp : a.spot = none := by
      have := spot_none hu
      simpa [Addr.add] using this
    obtain ⟨b, off, sp⟩ := a
    simp only at hsp
    subst hsp
    refine ⟨b, off, cs', rfl, hy, fun j hj => ?_⟩
    have := hcell j hj
    rw [add_eq] at this
    rw [Nat.add_assoc]; exact this

/-- a field of a struct -/
theorem Reads.field {α H : Type} {P : Program} {t : TypeId} {fs : Array Field} {R : Rep α} {enc : TypeId × Value → H} {w : World} {base : Nat} {spare : Nat → Bool} {held : Bool} {fuel : Nat} {cs : List Value} {x : DataW H × List MemPlace}
    (ht : P.underlying t = some (.struct fs)) (h : DataW.trod enc P w base spare held fuel t cs = some x) (i : Nat) (f : Field) (hf : fs[i]? = some f) (hr : Reads P f.type R) :
    ∃ a, R.rd w ((cs.drop f.offset).take R.n) a := by
  obtain ⟨xs, n, _, _, _, hl, hi⟩ := DataW.trod_struct ht h
  have h1 := hi i f hf
  have hlt : i < fs.size := (Array.getElem?_eq_some_iff.1 hf).1
  rw [List.getElem?_eq_getElem (by omega), hr.1] at h1
  exact hr.2 h1
theorem struct_len {H : Type} {P : Program} {t : TypeId} {fs : Array Field} {enc : TypeId × Value → H} {w : World} {base : Nat} {spare : Nat → Bool} {held : Bool} {fuel : Nat} {cs : List Value} {x : DataW H × List MemPlace}
    (ht : P.underlying t = some (.struct fs)) (h : DataW.trod enc P w base spare held fuel t cs = some x) : cs.length = P.cellsOf t := by
  obtain ⟨xs, n, _, _, hl, _⟩ := DataW.trod_struct ht h
  exact hl

/-- an argument that is a struct -/
theorem arg_struct {α H : Type} {P : Program} {t : TypeId} {fs : Array Field} {R : Rep α} {enc : TypeId × Value → H} {w : World} {r : Reach} {b0 base : Nat} {spare : Nat → Bool} {held : Bool} {v : Value} {d : DataW H} {p : List MemPlace}
    (ht : P.underlying t = some (.struct fs)) (hr : Reads P t R) (hv : Value.okWide P w r b0 t v) (h : DataW.Trod enc P w base spare held t v d p) : ∃ cs x, v = .agg cs.toArray ∧ R.rd w cs x := by
  obtain ⟨cs, rfl, _⟩ := okWide_struct ht hv
  obtain ⟨fuel, hf⟩ := h
  obtain ⟨x, hx⟩ := hr.2 hf
  exact ⟨cs.toList, x, by simp, by simpa [Value.cells] using hx⟩
/-- an argument that is a slice -/
theorem arg_slice {α H : Type} {P : Program} {t e : TypeId} {R : Rep α} {enc : TypeId × Value → H} {w : World} {r : Reach} {b0 base : Nat} {spare : Nat → Bool} {held : Bool} {v : Value} {d : DataW H} {p : List MemPlace}
    (ht : P.underlying t = some (.slice e)) (hr : Reads P t (slR R)) (hv : Value.okWide P w r b0 t v) (h : DataW.Trod enc P w base spare held t v d p) : ∃ xs, Sl R w v xs := by
  obtain ⟨a, n, c, rfl⟩ := okWide_slice ht hv
  obtain ⟨fuel, hf⟩ := h
  obtain ⟨xs, v', hx, hs⟩ := hr.2 hf
  simp [Value.cells] at hx
  subst hx
  exact ⟨xs, hs⟩

/-! ### The end of a law -/

theorem args_below {H : Type} {enc : TypeId × Value → H} {P : Program} (hl : laidOutB P = true) {W W2 : World} (hb : Below W.heap.size W W2) :
    ∀ {ts : List TypeId} {vs : List Value} {ds : List (DataW H)} {ps : List MemPlace}, (∀ t ∈ ts, P.readableRec t = true ∧ t < P.types.size) → DataW.TrodAll enc P W 0 (fun _ => true) true ts vs ds ps →
      (∀ x ∈ ps, x.block < W.heap.size) → DataW.TrodAll enc P W2 0 (fun b => decide (b < W.heap.size)) true ts vs ds ps
  | [], _, _, _, _, h, _ => by
    obtain ⟨rfl, rfl, rfl⟩ := trodAll_nil h
    exact rfl
  | t :: ts, _, _, _, hr, h, hlt => by
    obtain ⟨v, vs1, d, ds1, a, b, rfl, rfl, rfl, h1, h2⟩ := trodAll_cons h
    refine ⟨a, b, ?_, args_below hl hb (fun t ht => hr t (List.mem_cons_of_mem _ ht)) h2 (fun x hx => hlt x (List.mem_append_right _ hx)), rfl⟩
    exact Below.trod hl (hr t (List.mem_cons_self ..)).1 (hr t (List.mem_cons_self ..)).2 h1 hb (fun x hx => hlt x (List.mem_append_left _ hx))

/-- What a law's walk owes: true, and all that there was stands. -/
theorem law_post {H : Type} {enc : TypeId × Value → H} {P : Program} {f : FuncId} {fn : Func} {s : ChangeSpec} {tb : TypeId} (hl : laidOutB P = true)
    (hr : ∀ t ∈ fn.params.toList, P.readableRec t = true ∧ t < P.types.size) (hres : fn.resultTypes = #[tb]) (htb : P.underlying tb = some .bool) (hv : s.vars = [])
    {W : World} {args : Array Value} {ds gs : List (DataW H)} {before : List MemPlace} (hs : s.fn H ds = { results := [.lit (.bool true)], args := ds })
    (hW : DataW.Whole enc P fn.params.toList s.vars false W args.toList ds gs before)
    (h : Calls P f args W fun e W2 => e = .returned (.bool true) ∧ Ext W W2) :
    Calls P f args W fun e W2 => ∃ v, e = .returned v ∧ s.post enc P fn false true false false W args v W2 := by
  refine h.mono fun e W2 ⟨he, hb⟩ => ⟨_, he, ?_⟩
  have hlt : ∀ p ∈ before, p.block < W.heap.size := fun p hp => hW.lt p hp
  have hW0 := hW
  obtain ⟨p, q, hA, hV, rfl, _, _⟩ := hW
  rw [hv] at hV
  obtain ⟨rfl, rfl⟩ := trodVars_none hV
  simp only [List.append_nil] at hlt hW0
  refine ⟨ds, [], p, [], p, [], hW0, ?_, ?_, ?_, World.keptBut_mono (fun x hx => ⟨hx, .inr (.inl hx)⟩) (Below.frame hb (· ∈ p)), fun h => by cases h⟩
  · rw [List.append_nil, hs, hres]
    exact trodAll_mk1 (shut_bool htb true)
  · rw [List.append_nil, hs]
    exact args_below hl hb hr hA hlt
  · rw [List.append_nil, hs, hv]
    exact rfl

end Go.Proofs.Ytblggajfdhjmjaa
