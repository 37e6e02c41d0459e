/-
  SEVERAL SMALL TEXTS LAID TOGETHER: Env, Strs, AppI, Chg, Door, CutW, Join, Mark, DoorP, ShW, AppS, Marks.
-/
import Derived.Test.YtfieimmlcopbhaaGreatDoorMgEndPO1
import Derived.Test.YtfieimmlcopbhaaGreatDoorMgEndPO0
import Derived.LaidLaws
import Derived.Lay
import Derived.Handed
import Derived.JoinedAt
import Derived.Stop.LaidErr
import Derived.Laws.OwnMore

namespace Go.Proofs.YtfieimmlcopbhaaGreatDoor
open Go.RowKit

/-- the two errors of strconv hold interface values -/
def EV (w : World) : Prop := (∃ tp p, w.cell? ⟨1, 0, none⟩ = some (.iface tp p)) ∧ ∃ tp p, w.cell? ⟨2, 0, none⟩ = some (.iface tp p)
theorem EV.mono {w w2 : World} (e : Ext w w2) (h : EV w) : EV w2 := by
  obtain ⟨⟨a, b, h1⟩, c, d, h2⟩ := h
  exact ⟨⟨a, b, e.cell h1⟩, c, d, e.cell h2⟩
structure Env (w : World) : Prop where
  T : Tab w
  M : ML w
  V : EV w
theorem Env.mono {w w2 : World} (e : Ext w w2) (h : Env w) : Env w2 := ⟨h.T.mono e, h.M.mono e, h.V.mono e⟩
end Go.Proofs.YtfieimmlcopbhaaGreatDoor

namespace Go.Proofs.YtfieimmlcopbhaaGreatDoor
open Go.RowKit

def sumSize (xs : List ByteArray) : Nat := (xs.map ByteArray.size).sum
theorem sumSize_take (xs : List ByteArray) (k : Nat) (h : k < xs.length) : sumSize (xs.take (k + 1)) = sumSize (xs.take k) + xs[k].size := by
  rw [List.take_succ_eq_append_getElem h]; unfold sumSize; rw [List.map_append, List.sum_append]; simp
theorem sumSize_le (xs : List ByteArray) (k : Nat) : sumSize (xs.take k) ≤ sumSize xs := by
  have h := List.take_append_drop k xs
  have : sumSize xs = sumSize (xs.take k) + sumSize (xs.drop k) := by
    unfold sumSize; rw [← List.sum_append, ← List.map_append, h]
  omega
theorem sumSize_at (xs : List ByteArray) (k : Nat) (h : k < xs.length) : sumSize (xs.take k) + xs[k].size ≤ sumSize xs := by
  rw [← sumSize_take xs k h]; exact sumSize_le _ _
theorem sumSize_mem {xs : List ByteArray} {x : ByteArray} (h : x ∈ xs) : x.size ≤ sumSize xs := by
  obtain ⟨i, hi, rfl⟩ := List.getElem_of_mem h
  have := sumSize_at xs i hi
  omega

theorem infoStr : (Tryz.prog.info? 9).map (fun i => (i.zero, i.size, i.bytes)) = some (some (.string ByteArray.empty), 1, 16) := by kernel_rfl

theorem strs_cells (w : World) (xs : List ByteArray) (h : ∀ x ∈ xs, x.size ≤ maxLen) : OwnCells strO w (xs.map Value.string) xs [] := by
  induction xs with
  | nil => exact .nil
  | cons x xs ih => exact ⟨[.string x], xs.map Value.string, [], [], rfl, rfl, ⟨⟨rfl, h x (List.mem_cons_self ..)⟩, rfl⟩, ih fun y hy => h y (List.mem_cons_of_mem _ hy)⟩
theorem Sl.strlen {w : World} {v : Value} {xs : List ByteArray} (h : Sl strR w v xs) : ∀ x ∈ xs, x.size ≤ maxLen := by
  intro x hx
  obtain ⟨A, cap, rfl, _⟩ := h.form
  obtain ⟨i, hi, rfl⟩ := List.getElem_of_mem hx
  obtain ⟨_, _, _, hb, _⟩ := h.str hi
  exact hb

set_option maxHeartbeats 400000 in
theorem eqStringS_c (v u : Value) (xs ys : List ByteArray) (w : World) (h : Sl strR w v xs) (k : Sl strR w u ys) :
    Calls Tryz.prog 99 #[v, u] w fun e w2 => e = .returned (.bool (eqB xs ys)) ∧ Ext w w2 := by
  obtain ⟨A, cap, rfl, hm⟩ := h.form
  obtain ⟨B, cap2, rfl, hm2⟩ := k.form
  by_cases hl : xs.length = ys.length
  · have hl' : ((xs.length : Int) != (ys.length : Int)) = false := by simp [hl]
    have HL := hid hl
    clear hl
    go_enter Tryz.func99, Tryz.ntmps99
    go_wp2
    go_loopw [5] (fun i wr => ∃ k2 : Nat, k2 ≤ xs.length ∧ i = .int .i64 k2 ∧ xs.take k2 = ys.take k2 ∧ Ext w wr) (fun i _ => xs.length - (intOf i).toNat)
    case atStart => exact ⟨0, Nat.zero_le _, rfl, by simp, Ext.refl _⟩
    case round =>
      obtain ⟨k2, hk, rfl, he, hx⟩ := hrel
      have HE := hid he
      clear he
      by_cases hlt : k2 < xs.length
      · have hlt2 : k2 < ys.length := by have := HL.out; omega
        obtain ⟨b, off, rfl, hi, hc⟩ := (h.mono hx).str hlt
        obtain ⟨b2, off2, rfl, hi2, hc2⟩ := (k.mono hx).str hlt2
        have hcz : ∀ z : ExtOf wr, z.1.cell? ⟨b, off + k2, none⟩ = _ := fun z => z.2.cell hc
        have hcz2 : ∀ z : ExtOf wr, z.1.cell? ⟨b2, off2 + k2, none⟩ = _ := fun z => z.2.cell hc2
        by_cases h0 : xs[k2] = ys[k2]
        · have h0' := str_eq h0
          have H0 := hid h0
          clear h0
          go_wp2_with fail
          refine wp_region_ext (by kernel_rfl) (by kernel_rfl) ?_
          repeat (go_big_quiet_step ((fail)))
          refine wpQuiet_nil ?_
          rintro w1 ⟨⟨_, x1⟩, rfl⟩
          go_wp2
          go_roundw
          case rel => exact ⟨k2 + 1, by omega, by go_num, take_snoc_eq hlt hlt2 H0.out HE.out, hx.trans x1⟩
          case measure => simp [intOf]; omega
        · have h0' := str_ne h0
          go_wp2_with fail
          refine wp_region_ext (by kernel_rfl) (by kernel_rfl) ?_
          repeat (go_big_quiet_step ((fail)))
          refine wpQuiet_nil ?_
          rintro w1 ⟨⟨_, x1⟩, rfl⟩
          go_wp2
          go_ret
          exact ⟨ret_bool (eqB_false (ne_of_at hlt hlt2 h0)).symm, hx.trans x1⟩
      · go_wp2
        go_ret
        exact ⟨ret_bool (eqB_true (eq_of_take hlt HL.out HE.out)).symm, hx⟩
  · have hl' : ((xs.length : Int) != (ys.length : Int)) = true := by simp; omega
    go_enter Tryz.func99, Tryz.ntmps99
    go_wp2
    go_ret
    exact ⟨ret_bool (eqB_false fun e => hl (by rw [e])).symm, Ext.refl _⟩
end Go.Proofs.YtfieimmlcopbhaaGreatDoor

namespace Go.Proofs.YtfieimmlcopbhaaGreatDoor
open Go.RowKit
theorem elemInt : ElemT Tryz.prog 96 3 intO.n 8 := by
  obtain ⟨i, h1, h2, h3, h4⟩ := info_parts infoInt
  exact ⟨Tryz.underlying96, i, _, h1, h2, h3, h4, rfl⟩
theorem one_int (x : Int) : ∀ u ∈ (#[Value.int .i64 x] : Array Value).toList, u.oneCell' = true := by simp [Value.oneCell']
theorem one_slice (A : Option Addr) (n c : Nat) : ∀ u ∈ (#[Value.slice A n c] : Array Value).toList, u.oneCell' = true := by simp [Value.oneCell']
theorem own_int (W : World) (x : Int) (h : I64 x) : intO.own W (#[Value.int .i64 x] : Array Value).toList x [] := ⟨⟨rfl, h⟩, rfl⟩
end Go.Proofs.YtfieimmlcopbhaaGreatDoor

namespace Go.Proofs.YtfieimmlcopbhaaGreatDoor
open Go.RowKit

/-- all stands but the blocks F -/
structure Chg (F : List Nat) (w w2 : World) : Prop where
  os : w2.os = w.os
  tape : w2.tape = w.tape
  output : w2.output = w.output
  size : w.heap.size ≤ w2.heap.size
  block : ∀ b, b < w.heap.size → b ∉ F → w2.heap[b]? = w.heap[b]?
theorem Chg.refl (F : List Nat) (w : World) : Chg F w w := ⟨rfl, rfl, rfl, Nat.le_refl _, fun _ _ _ => rfl⟩
theorem Chg.trans {F : List Nat} {a b c : World} (h : Chg F a b) (k : Chg F b c) : Chg F a c :=
  ⟨k.os.trans h.os, k.tape.trans h.tape, k.output.trans h.output, Nat.le_trans h.size k.size, fun i hi hn => (k.block i (Nat.lt_of_lt_of_le hi h.size) hn).trans (h.block i hi hn)⟩
theorem Chg.mono {F G : List Nat} {a b : World} (h : Chg F a b) (hs : ∀ x ∈ F, x ∈ G) : Chg G a b := ⟨h.os, h.tape, h.output, h.size, fun i hi hn => h.block i hi fun hm => hn (hs i hm)⟩
theorem Chg.of_ext {F : List Nat} {a b : World} (h : Ext a b) : Chg F a b := ⟨h.os, h.tape, h.output, h.size, fun _ hi _ => h.block hi⟩
theorem Chg.setCell {F : List Nat} {a b : World} (h : Chg F a b) {p : Addr} (hp : p.block ∈ F) (u : Value) : Chg F a (b.setCell p u) := by
  have hs := World.size_setCell b p u
  refine ⟨h.os, h.tape, h.output, by rw [hs]; exact h.size, fun i hi hn => ?_⟩
  have hne : i ≠ p.block := fun e => hn (by rw [e]; exact hp)
  rw [keep_setCell hne]
  exact h.block i hi hn
/-- what is new since w0 alone was written -/
theorem Chg.ext {F : List Nat} {w0 a b : World} (h : Chg F a b) (hF : ∀ x ∈ F, w0.heap.size ≤ x) (x : Ext w0 a) : Ext w0 b :=
  ⟨h.os.trans x.os, h.tape.trans x.tape, h.output.trans x.output, Nat.le_trans x.size h.size, fun k hk => (h.block k (Nat.lt_of_lt_of_le hk x.size) fun hm => by have := hF k hm; omega).trans (x.block hk)⟩
/-- two sets of blocks -/
def Dis (F G : List Nat) : Prop := ∀ b ∈ F, b ∉ G
theorem Dis.symm {F G : List Nat} (h : Dis F G) : Dis G F := fun b hb hf => h b hf hb
theorem Dis.new {w : World} {F G : List Nat} (hF : ∀ b ∈ F, b < w.heap.size) (hG : NewF w G) : Dis F G := fun b hb hg => by
  have := hF b hb
  have := hG.2 b hg
  omega
theorem Chg.keep {α : Type} {R : RepO α} {w w2 : World} {cs : List Value} {x : α} {F G : List Nat} (h : Chg G w w2) (d : Dis F G) (o : R.own w cs x F) : R.own w2 cs x F :=
  R.own_keep (fun b hb => h.block b (R.own_lt o b hb) (d b hb)) o
theorem Chg.keepSl {α : Type} {R : RepO α} {w w2 : World} {v : Value} {xs : List α} {F G : List Nat} (h : Chg G w w2) (d : Dis F G) (o : OwnSl R w v xs F) : OwnSl R w2 v xs F :=
  o.keep fun b hb => h.block b (o.lt b hb) (d b hb)

/-- how many numbers a value takes when it is marked; what it is then -/
structure Mk (α : Type) where
  cnt : α → Nat
  is : Int → α → α → Prop
def intMk : Mk Int := ⟨fun _ => 1, fun k _ y => y = k⟩
def Mk.sum {α : Type} (M : Mk α) (xs : List α) : Nat := (xs.map M.cnt).sum
def lstMk {α : Type} (M : Mk α) : Mk (List α) := ⟨M.sum, fun k xs ys => ys.length = xs.length ∧ ∀ (j : Nat) (h : j < xs.length) (h2 : j < ys.length), M.is (k + (M.sum (xs.take j) : Nat)) xs[j] ys[j]⟩
theorem Mk.sum_step {α : Type} (M : Mk α) (xs : List α) (i : Nat) (h : i < xs.length) : M.sum (xs.take (i + 1)) = M.sum (xs.take i) + M.cnt xs[i] := by
  rw [List.take_succ_eq_append_getElem h]; unfold Mk.sum; rw [List.map_append, List.sum_append]; simp
theorem Mk.sum_le {α : Type} (M : Mk α) (xs : List α) (i : Nat) : M.sum (xs.take i) ≤ M.sum xs := by
  have h := List.take_append_drop i xs
  have : M.sum xs = M.sum (xs.take i) + M.sum (xs.drop i) := by
    unfold Mk.sum; rw [← List.sum_append, ← List.map_append, h]
  omega
theorem Mk.sum_at {α : Type} (M : Mk α) (xs : List α) (i : Nat) (h : i < xs.length) : M.sum (xs.take i) + M.cnt xs[i] ≤ M.sum xs := by
  rw [← M.sum_step xs i h]; exact M.sum_le _ _
theorem Mk.sum_all {α : Type} (M : Mk α) (xs : List α) (i : Nat) (h : ¬ i < xs.length) : M.sum (xs.take i) = M.sum xs := by rw [List.take_of_length_le (by omega)]
theorem intMk_sum (xs : List Int) : intMk.sum xs = xs.length := by
  unfold Mk.sum intMk
  induction xs with
  | nil => rfl
  | cons x xs ih => simp only [List.map_cons, List.sum_cons, List.length_cons, ih]; omega

/-- the first i are marked, the rest is as it was -/
structure Part {α : Type} (M : Mk α) (k : Int) (xs ys : List α) (i : Nat) : Prop where
  len : ys.length = xs.length
  done : ∀ (j : Nat) (h : j < xs.length) (h2 : j < ys.length), j < i → M.is (k + (M.sum (xs.take j) : Nat)) xs[j] ys[j]
  rest : ∀ (j : Nat) (h : j < xs.length) (h2 : j < ys.length), i ≤ j → ys[j] = xs[j]
theorem Part.zero {α : Type} (M : Mk α) (k : Int) (xs : List α) : Part M k xs xs 0 := ⟨rfl, fun _ _ _ h => by omega, fun _ _ _ _ => rfl⟩
theorem Part.all {α : Type} {M : Mk α} {k : Int} {xs ys : List α} {i : Nat} (h : Part M k xs ys i) (hi : ¬ i < xs.length) : (lstMk M).is k xs ys := ⟨h.len, fun j hj h2 => h.done j hj h2 (by omega)⟩
theorem Part.at_ {α : Type} {M : Mk α} {k : Int} {xs ys : List α} {i : Nat} (h : Part M k xs ys i) (hi : i < xs.length) : ∃ hy : i < ys.length, ys[i] = xs[i] :=
  ⟨by have := h.len; omega, h.rest i hi _ (Nat.le_refl _)⟩
theorem Part.step {α : Type} {M : Mk α} {k : Int} {xs ys : List α} {i : Nat} (h : Part M k xs ys i) (hi : i < xs.length) {y : α} (hy : M.is (k + (M.sum (xs.take i) : Nat)) xs[i] y) : Part M k xs (ys.set i y) (i + 1) := by
  refine ⟨by rw [List.length_set]; exact h.len, fun j hj h2 hlt => ?_, fun j hj h2 hge => ?_⟩
  · rw [List.getElem_set]
    by_cases e : i = j
    · subst e; rw [if_pos rfl]; exact hy
    · rw [if_neg e]; exact h.done j hj _ (by omega)
  · rw [List.getElem_set, if_neg (by omega)]
    exact h.rest j hj _ (by omega)
end Go.Proofs.YtfieimmlcopbhaaGreatDoor

namespace Go.Proofs.YtfieimmlcopbhaaGreatDoor
open Go.RowKit

theorem tab_mem {P : Program} {w : World} {name : String} {k : IntKind} {zs : List Int} {t e : TypeId} {n g : Nat}
    (hg : P.globalNamed name = some g) (hty : (P.globals[g]?).map (·.type) = some t) (ht : P.underlying t = some (.array n e)) (he : P.underlying e = some (.int k)) (hce : P.cellsOf e = 1) (hct : P.cellsOf t = n) :
    ∀ {l : List (String × DataW Unit)} {ps : List MemPlace}, DataW.LaidVars P w l ps → (name, Go.Lib.tabData k zs) ∈ l → Go.Lib.TabIs P w name k zs
  | [], _, _, hm => by cases hm
  | (n2, d2) :: r, ps, h, hm => by
    obtain ⟨g', t', cs, fuel, p, q, hg', ht', hvar, hd, h5, _⟩ := h
    rcases List.mem_cons.1 hm with hm | hm
    · injection hm with e1 e2
      subst e1
      subst e2
      obtain rfl := Option.some.inj (hg.symm.trans hg')
      obtain rfl := Option.some.inj (hty.symm.trans ht')
      unfold Go.Lib.TabIs
      rw [hvar, ← Go.Lib.cells_of_tab ht he hce hct hd]
    · exact tab_mem hg hty ht he hce hct h5 hm
end Go.Proofs.YtfieimmlcopbhaaGreatDoor

namespace Go.Proofs.YtfieimmlcopbhaaGreatDoor
open Go.RowKit

theorem elemStrC : ElemT Tryz.prog 22 9 strO.n 16 := by
  obtain ⟨i, h1, h2, h3, h4⟩ := info_parts infoStr
  exact ⟨Tryz.underlying22, i, _, h1, h2, h3, h4, rfl⟩
theorem one_strC (s : ByteArray) : ∀ u ∈ (#[Value.string s] : Array Value).toList, u.oneCell' = true := by simp [Value.oneCell']
theorem own_strC (W : World) (s : ByteArray) (h : s.size ≤ maxLen) : strO.own W (#[Value.string s] : Array Value).toList s [] := ⟨⟨rfl, h⟩, rfl⟩

theorem drop_len (s : ByteArray) (j : Nat) : (s.data.toList.drop j).length = s.size - j := by
  rw [List.length_drop]
  have e : s.data.toList.length = s.size := Array.length_toList
  omega
theorem no_step {s : ByteArray} {c : UInt8} {j k : Nat} (hjk : j ≤ k) (hk : k < s.size) (hc : ¬ s[k] = c) (hn : c ∉ (s.data.toList.drop j).take (k - j)) : c ∉ (s.data.toList.drop j).take (k + 1 - j) := by
  have e1 : k + 1 - j = (k - j) + 1 := by omega
  have hl : k - j < (s.data.toList.drop j).length := by rw [drop_len]; omega
  have e2 : (s.data.toList.drop j)[k - j] = s[k] := by
    have h9 : (s.data.toList.drop j)[k - j]? = some s[k] := by
      rw [List.getElem?_drop, show j + (k - j) = k by omega]
      exact Go.Lib.data_getElem? s k hk
    rw [List.getElem?_eq_getElem hl] at h9
    exact Option.some.inj h9
  rw [e1, List.take_succ_eq_append_getElem hl, List.mem_append, List.mem_singleton, e2]
  rintro (h | h)
  · exact hn h
  · exact hc h.symm
theorem pcs_hit {s : ByteArray} {c : UInt8} {j k : Nat} (hjk : j ≤ k) (hk : k < s.size) (hc : s[k] = c) (hn : c ∉ (s.data.toList.drop j).take (k - j)) : pcs c (bs (s.data.toList.drop j)) = s.extract j k :: pcs c (bs (s.data.toList.drop (k + 1))) := by
  have hl : k < s.data.toList.length := by rw [Array.length_toList]; exact hk
  have e1 : s.data.toList.drop j = (s.data.toList.drop j).take (k - j) ++ c :: s.data.toList.drop (k + 1) := by
    conv => lhs; rw [← List.take_append_drop (k - j) (s.data.toList.drop j)]
    rw [List.drop_drop, show j + (k - j) = k by omega, List.drop_eq_getElem_cons hl]
    have : s.data.toList[k] = c := hc
    rw [this]
  rw [pcs_bs, pcs_bs]
  conv => lhs; rw [e1]
  rw [cutL_hit hn, List.map_cons, Go.Lib.extract_eq]; rfl
theorem pcs_end {s : ByteArray} {c : UInt8} {j k : Nat} (hk : ¬ k < s.size) (hn : c ∉ (s.data.toList.drop j).take (k - j)) : pcs c (bs (s.data.toList.drop j)) = [s.extract j s.size] := by
  have hl := drop_len s j
  rw [List.take_of_length_le (by rw [hl]; omega)] at hn
  rw [pcs_bs, cutL_all hn, Go.Lib.extract_eq, List.take_of_length_le (by rw [hl]; omega)]; rfl

set_option maxHeartbeats 400000 in
set_option maxRecDepth 20000 in
theorem spec_l2Cut (s : ByteArray) (c : UInt8) (w : World) (hs : s.size ≤ 1048600) :
    Calls Tryz.prog 52 #[.string s, .int .u8 c.toNat] w fun e w2 => ∃ v F, e = .returned v ∧ OwnSl strO w2 v (pcs c s) F ∧ NewF w F ∧ Ext w w2 := by
  have H0 := hid (show pcs c (bs (s.data.toList.drop 0)) = pcs c s by rw [List.drop_zero, bs_mk])
  have HM := hid (pcs_len c s)
  go_enter Tryz.func52, Tryz.ntmps52
  go_wp2
  go_loopw [5, 6, 7] (fun o f i wr => ∃ (j k : Nat) (ps : List ByteArray), j ≤ k ∧ k ≤ s.size ∧ f = .int .i64 j ∧ i = .int .i64 k ∧ Bld strO wr w.heap.size 9 o ps [] ∧ Ext w wr ∧ Hid (ps ++ pcs c (bs (s.data.toList.drop j)) = pcs c s) ∧ Hid (c ∉ (s.data.toList.drop j).take (k - j))) (fun _ _ i _ => s.size - (intOf i).toNat)
  case atStart => exact ⟨0, 0, [], Nat.le_refl _, Nat.zero_le _, rfl, rfl, Bld.lit w (Nat.le_refl _) _, (Ext.refl _).alloc _, hid (by rw [List.nil_append]; exact H0.out), hid (by simp)⟩
  case round =>
    obtain ⟨j, k, ps, hjk, hk, rfl, rfl, hB, hx, hP, hN⟩ := hrel
    have hbs := hx.size
    have hpl : ps.length ≤ s.size + 1 := by
      have e := congrArg List.length hP.out
      rw [List.length_append] at e
      have := HM.out
      omega
    by_cases hlt : k < s.size
    · have hb := s[k].toNat_lt
      by_cases hc : s[k] = c
      · have h1 : ((s[k].toNat : Int) == (c.toNat : Int)) = true := by rw [hc]; simp
        have hz : (s.extract j k).size ≤ maxLen := by rw [ByteArray.size_extract]; unfold maxLen; omega
        have HZ := hid hz
        have hnew := hid (show (ps ++ [s.extract j k]) ++ pcs c (bs (s.data.toList.drop (k + 1))) = pcs c s by rw [List.append_assoc, List.singleton_append, ← pcs_hit hjk hlt hc hN.out]; exact hP.out)
        clear hc hz
        go_wp2_with (at_builtin; refine wpList_app1 elemStrC (by decide) rfl _ _ rfl hB rfl wr.heap.size 1 rfl rfl (one_strC _) (own_strC _ _ HZ.out) fresh_nil (by omega) (by decide) hbs ?_; intro v9 w9 hB9 hE9)
        go_roundw
        case rel => exact ⟨k + 1, k + 1, ps ++ [s.extract j k], Nat.le_refl _, by omega, by go_num, by go_num, hB9, hE9 _ (Nat.le_refl _) hx, hnew, hid (by simp)⟩
        case measure => simp [intOf]; omega
      · have h1 : ((s[k].toNat : Int) == (c.toNat : Int)) = false := by
          rw [beq_eq_false_iff_ne]
          intro e
          exact hc (UInt8.toNat_inj.1 (by omega))
        have hnew := hid (no_step hjk hlt hc hN.out)
        clear hc
        go_wp2
        go_roundw
        case rel => exact ⟨j, k + 1, ps, by omega, by omega, rfl, by go_num, hB, hx, hP, hnew⟩
        case measure => simp [intOf]; omega
    · have hz : (s.extract j s.size).size ≤ maxLen := by rw [ByteArray.size_extract]; unfold maxLen; omega
      have HZ := hid hz
      have hnew := hid (show ps ++ [s.extract j s.size] = pcs c s by rw [← pcs_end hlt hN.out]; exact hP.out)
      clear hz
      go_wp2_with (at_builtin; refine wpList_app1 elemStrC (by decide) rfl _ _ rfl hB rfl wr.heap.size 1 rfl rfl (one_strC _) (own_strC _ _ HZ.out) fresh_nil (by omega) (by decide) hbs ?_; intro v9 w9 hB9 hE9)
      go_ret
      rw [hnew.out] at hB9
      obtain ⟨F, hF, hN, hb⟩ := hB9.done
      exact ⟨_, F, rfl, hF, ⟨hN, hb⟩, hE9 _ (Nat.le_refl _) hx⟩
theorem spec_l2CutN (s : ByteArray) (c : UInt8) (n : Int) (w : World) (hn : n = c.toNat) (hs : s.size ≤ 1048600) :
    Calls Tryz.prog 52 #[.string s, .int .u8 n] w fun e w2 => ∃ v F, e = .returned v ∧ OwnSl strO w2 v (pcs c s) F ∧ NewF w F ∧ Ext w w2 := by
  subst hn
  exact spec_l2Cut s c w hs
end Go.Proofs.YtfieimmlcopbhaaGreatDoor

namespace Go.Proofs.YtfieimmlcopbhaaGreatDoor
open Go.RowKit

theorem xJoin : Builder.Extra Tryz.prog lShJoin_ren :=
  { sizeBuilder := by kernel_rfl, liesBuilder := by kernel_rfl, t5 := Tryz.underlying5, a5 := Tryz.isAgg5, z5 := Tryz.sizeOf5, v5 := Tryz.zeroValue5, infoByte := by kernel_rfl, cellsByte := by kernel_rfl, sizeByte := by kernel_rfl, neB5 := by decide }

/-- texts joined by a separator -/
def joinS (xs : List ByteArray) (sep : ByteArray) : ByteArray := ⟨(Go.Lib.join (xs.map (·.data.toList)) sep.data.toList).toArray⟩
theorem joinS_nil (sep : ByteArray) : joinS [] sep = ⟨#[]⟩ := rfl
theorem joinS_data (xs : List ByteArray) (sep : ByteArray) : (joinS xs sep).data.toList = Go.Lib.join (xs.map (·.data.toList)) sep.data.toList := by unfold joinS; simp
theorem joinTail_append (sep : List UInt8) (a b : List (List UInt8)) : Go.Lib.joinTail sep (a ++ b) = Go.Lib.joinTail sep a ++ Go.Lib.joinTail sep b := by unfold Go.Lib.joinTail; simp
theorem joinS_one (x sep : ByteArray) : joinS [x] sep = x := by
  apply Go.WideShapes.bytes_inj
  rw [joinS_data]
  exact Go.Lib.join_one _ _
theorem joinS_snoc (xs : List ByteArray) (x sep : ByteArray) (h : xs ≠ []) : joinS (xs ++ [x]) sep = joinS xs sep ++ sep ++ x := by
  cases xs with
  | nil => exact absurd rfl h
  | cons y ys =>
    apply Go.WideShapes.bytes_inj
    simp only [joinS_data, ByteArray.data_append, Array.toList_append, List.map_cons, List.cons_append, List.map_append, Go.Lib.join_cons, joinTail_append]
    simp [Go.Lib.joinTail]
/-- the next text: with the separator ahead, if it is not the first -/
theorem joinS_step (xs : List ByteArray) (k : Nat) (h : k < xs.length) (sep : ByteArray) : joinS (xs.take (k + 1)) sep = if 0 < k then joinS (xs.take k) sep ++ sep ++ xs[k] else xs[k] := by
  rw [List.take_succ_eq_append_getElem h]
  split
  · rename_i hk
    rw [joinS_snoc _ _ _ (List.ne_nil_of_length_pos (by rw [List.length_take]; omega))]
  · have : k = 0 := by omega
    subst this
    simp [joinS_one]
theorem joinS_size (B : Nat) (sep : ByteArray) : ∀ (xs : List ByteArray), (∀ x ∈ xs, x.size ≤ B) → (joinS xs sep).size ≤ xs.length * (B + sep.size) := by
  intro xs hx
  have h : ∀ k, k ≤ xs.length → (joinS (xs.take k) sep).size ≤ k * (B + sep.size) := by
    intro k
    induction k with
    | zero => intro _; rw [List.take_zero, joinS_nil]; exact Nat.zero_le _
    | succ k ih =>
      intro hk
      rw [joinS_step xs k (by omega), Nat.add_mul, Nat.one_mul]
      have h1 := ih (by omega)
      have h2 := hx xs[k] (List.getElem_mem _)
      split
      · rw [ByteArray.size_append, ByteArray.size_append]; omega
      · have := Nat.zero_le (k * (B + sep.size)); omega
  have := h xs.length (Nat.le_refl _)
  rwa [List.take_length] at this

/-- 'a + b' on strings -/
theorem run_cat {P : Program} (t : TypeId) (a b : ByteArray) (h : a.size + b.size ≤ 9223372036854775807) (W : World) : (binOp .add t (.string a) (.string b)).run P W = .ok (.string (a ++ b)) W := by
  have h2 := run_string_add_sum (P := P) (w := W) a b h
  simp only [binOp, h2]
theorem strings_Join_c (v : Value) (xs : List ByteArray) (sep : ByteArray) (w : World) (h : Sl strR w v xs) (hN : xs.length ≤ 140737488355328) (hl : (joinS xs sep).size ≤ 140737488355328) :
    Calls Tryz.prog 118 #[v, .string sep] w fun e w2 => e = .returned (.string (joinS xs sep)) ∧ Ext w w2 := by
  obtain ⟨A, cap, rfl, hm, hi⟩ := h
  cases xs with
  | nil => exact (Any.strings_Join_none lShJoin xJoin A cap sep w).mono fun _ _ ⟨he, hw⟩ => ⟨he, hw ▸ Ext.refl _⟩
  | cons x r =>
    obtain ⟨b, off, _, rfl, _, _⟩ := hi 0 (by simp)
    have hc : ∀ (j : Nat) y, (x :: r)[j]? = some y → w.cell? ⟨b, off + j, none⟩ = some (.string y) := fun j y hj => by
      obtain ⟨hlt, rfl⟩ := List.getElem?_eq_some_iff.1 hj
      obtain ⟨b2, off2, cs, e, ⟨rfl, _⟩, h2⟩ := hi j hlt
      injection e with e
      injection e with e1 e2
      subst e1
      subst e2
      simpa [strR] using h2 0 (by simp [strR])
    have hb := World.block_lt_of_cell? _ _ (hc 0 x rfl)
    exact (Any.strings_Join lShJoin xJoin b off cap (x :: r) sep w hc hb hN hm.1 (by rw [← joinS_data, Array.length_toList]; exact hl)).mono fun _ _ ⟨he, hw⟩ => ⟨he, hw⟩

end Go.Proofs.YtfieimmlcopbhaaGreatDoor

namespace Go.Proofs.YtfieimmlcopbhaaGreatDoor
open Go.RowKit
end Go.Proofs.YtfieimmlcopbhaaGreatDoor

namespace Go.Proofs.YtfieimmlcopbhaaGreatDoor
open Go.RowKit

theorem star_err : "*" ++ "errors.errorString" = "*errors.errorString" := by decide
theorem row_err (u : TypeId) (h : Tryz.prog.typeName? 3 u = some "*errors.errorString") : u = 168 :=
  typeName_ptr_named (nm := "errors.errorString") (by rw [star_err]; kernel_rfl) (by kernel_rfl) (by decide) u (by rw [star_err]; exact h)
theorem ev_sent {n : String} {g : Nat} {text : List UInt8} {r : List (String × DataW Unit)} {W : World}
    (h : laidMet Tryz.prog ((n, .iface "*errors.errorString" (.ptr (.agg [.lit (.string text)]))) :: r) W) (hg : Tryz.prog.globalNamed n = some g) (ht : (Tryz.prog.globals[g]?).map (·.type) = some 92) :
    ∃ tp p, W.cell? ⟨g, 0, none⟩ = some (.iface tp p) := by
  obtain ⟨a, s, hv, _⟩ := laid_sentinel h hg ht Tryz.underlying92 row_err Tryz.underlying168 Tryz.underlying170 rfl rfl Tryz.underlying9 (by kernel_rfl) (by kernel_rfl)
  exact ⟨_, _, by simpa using World.var?_cell hg hv 0⟩
end Go.Proofs.YtfieimmlcopbhaaGreatDoor

namespace Go.Proofs.YtfieimmlcopbhaaGreatDoor
open Go.RowKit

theorem strings_Cut_c (s : ByteArray) (c : UInt8) (w : World) (hs : s.size ≤ 1048600) (M : ML w) :
    Calls Tryz.prog 44 #[.string s, .string ⟨#[c]⟩] w fun e w2 => e = .returned (.tuple #[.string (bs (Go.Lib.cut s.data.toList [c]).1), .string (bs (Go.Lib.cut s.data.toList [c]).2.1), .bool (Go.Lib.cut s.data.toList [c]).2.2]) ∧ Ext w w2 := by
  obtain ⟨m, hm⟩ := M
  exact (Any.strings_Cut lShCut s ⟨#[c]⟩ m w (by omega) hm).mono fun _ _ ⟨he, n, hw⟩ => ⟨he, by rw [hw]; exact (Ext.refl w).drewN n⟩

theorem strings_Split_c (s : ByteArray) (c : UInt8) (w : World) (hs : s.size ≤ 1048600) (M : ML w) :
    Calls Tryz.prog 53 #[.string s, .string ⟨#[c]⟩] w fun e w2 => ∃ v F, e = .returned v ∧ OwnSl strO w2 v (pcs c s) F ∧ NewF w F ∧ Ext w w2 := by
  obtain ⟨m, hm⟩ := M
  refine (Any.strings_Split lShSplit infoStr s ⟨#[c]⟩ m w (by omega) hm (Nat.le_refl 1)).mono fun e w2 h => ?_
  obtain ⟨he, hw⟩ := h
  have hl := Go.Lib.splitB_all ⟨#[c]⟩ (Nat.le_refl 1) 0 _ s rfl
  rw [splitB_one] at hl hw
  have hl2 : (pcs c s).length = Go.Lib.countB s ⟨#[c]⟩ + 1 := hl
  have hp := pcs_len c s
  rw [← hl2] at he
  subst hw
  refine ⟨_, [w.heap.size], he, ?_, ⟨by simp, fun b hb => by rw [List.mem_singleton] at hb; rw [hb]; exact Nat.le_refl _⟩, (Ext.refl w).alloc _⟩
  have hb := Blk.new w 9 ((pcs c s).map Value.string).toArray
  exact OwnSl.of_blk hb (by unfold maxLen; omega) (strs_cells _ _ fun x hx => by have := pcs_size hx; unfold maxLen; omega)

theorem strconv_Atoi_ok_c (s : ByteArray) (v : Int) (w : World) (hs : s.size ≤ 1048600) (h : Go.Lib.atoiAll s.data.toList = .ok v) :
    Calls Tryz.prog 96 #[.string s] w fun e w2 => e = .returned (.tuple #[.int .i64 v, .nilIface]) ∧ Ext w w2 :=
  (Any.strconv_Atoi_ok lShAtoi s (by omega) v h w).mono fun _ _ ⟨he, hw⟩ => ⟨he, by
    rcases hw with rfl | ⟨t, rfl⟩
    · exact Ext.refl _
    · exact Go.Lib.bytesWorld_below _ _ _⟩
theorem strconv_Atoi_err_c (s : ByteArray) (w : World) (hs : s.size ≤ 1048600) (h : ∀ v, Go.Lib.atoiAll s.data.toList ≠ .ok v) (V : EV w) :
    Calls Tryz.prog 96 #[.string s] w fun e w2 => ∃ n t p, e = .returned (.tuple #[.int .i64 n, .iface t p]) ∧ I64 n ∧ Ext w w2 := by
  obtain ⟨⟨tp, p, h1⟩, tq, q, h2⟩ := V
  rcases hc : Go.Lib.atoiAll s.data.toList with v | _ | _
  · exact absurd hc (h v)
  · exact (Any.strconv_Atoi_syntax lShAtoi s (by omega) hc _ w h1 (.inr ⟨tp, p, rfl⟩)).mono fun _ _ ⟨N, he, _, _, hb⟩ => ⟨_, _, _, he, by unfold I64; omega, hb⟩
  · exact (Any.strconv_Atoi_range lShAtoi s (by omega) hc _ w h2 (.inr ⟨tq, q, rfl⟩)).mono fun _ _ ⟨N, he, _, _, hb⟩ => ⟨_, _, _, he, Go.Lib.atoiSat_bounds _, hb⟩
end Go.Proofs.YtfieimmlcopbhaaGreatDoor

namespace Go.Proofs.YtfieimmlcopbhaaGreatDoor
open Go.RowKit

theorem Bld.emp {α : Type} {R : RepO α} {W : World} {base g : Nat} {e : TypeId} (hb : base ≤ g) (h : W.heap[g]? = some (.cells #[] e (0, 0))) : Bld R W base e (.slice (some ⟨g, 0, none⟩) 0 0) ([] : List α) [] :=
  ⟨[], ⟨by simp, .inr ⟨g, 0, #[], rfl, hb, h, Nat.le_refl _, Nat.zero_le _, by simp, by simp⟩⟩, .nil, fun _ _ h => (by cases h), List.nodup_nil, fun _ h => by cases h⟩
theorem Sl.strs_some {w : World} {ad : Addr} {n cap : Nat} {xs : List ByteArray} (h : Sl strR w (.slice (some ad) n cap) xs) : ∀ j u, (xs.map Value.string)[j]? = some u → w.cell? (ad.add j) = some u := by
  intro j u hj
  rw [List.getElem?_map] at hj
  obtain ⟨x, hx, rfl⟩ := Option.map_eq_some_iff.1 hj
  obtain ⟨hi, hx⟩ := List.getElem?_eq_some_iff.1 hx
  obtain ⟨b, off, e, h1, hc⟩ := h.str hi
  injection e with e
  subst e
  rw [add_eq, hc, hx]
theorem heapA (w : World) (o o2 : Obj) : ((w.alloc o).alloc o2).heap[w.heap.size + 1]? = some o2 := by
  have := heap_alloc_new (w.alloc o) o2
  simpa using this
theorem heapB (w : World) (o o2 : Obj) : ((w.alloc o).alloc o2).heap[w.heap.size]? = some o :=
  (((Ext.refl (w.alloc o)).alloc o2).block (by simp)).trans (heap_alloc_new w o)
/-- onto an empty literal -/
theorem step_apps {P : Program} {ops : Array Oper} {o : Oper} {a : Act} {w : World} {K : Act → World → Prop} {Q : Exit → Act → World → Prop} {Z : Prop} {t e : TypeId} (E : ElemT P t e strO.n 16)
    (hgd : o.guard = none) (s x : Operand) (ho : o.op = .call { callee := .builtin .append, args := #[s, x], argTypes := #[t, t] })
    {base g : Nat} (hs : a.eval s = .slice (some ⟨g, 0, none⟩) 0 0) (hbg : base ≤ g) (hg : w.heap[g]? = some (.cells #[] e (0, 0))) {ad : Addr} {n k : Nat} (hx : a.eval x = .slice (some ad) n k) {ys : List ByteArray} (hy : Sl strR w (.slice (some ad) n k) ys)
    (hbytes : ys.length ≤ 1099511627776) {w0 : World} (h0 : w0.heap.size ≤ base) (hx0 : Ext w0 w)
    (h : ∀ v' w', Bld strO w' base e v' ys [] → Ext w0 w' → (∀ b, b < w.heap.size → b ≠ g → w'.heap[b]? = w.heap[b]?) → K (a.put o.dst v') w') :
    if Region.wanted o (yielded ops a.tmps) = true then Oper.wp P o a w K Q else Z := by
  have hw : Region.wanted o (yielded ops a.tmps) = true := by simp [Region.wanted, hgd]
  rw [if_pos hw]
  have hb : Bld strO w base e (.slice (some ⟨g, 0, none⟩) 0 0) ([] : List ByteArray) [] := Bld.emp hbg hg
  have hbase : base ≤ w.heap.size := Nat.le_trans hbg (Nat.le_of_lt (block_lt hg))
  obtain ⟨ht, i, z, hi, hz, hsize, hby2, hzs⟩ := E
  have hn : n = ys.length := hy.cap_.1
  by_cases hm : 0 < n
  · have hc := hy.strs_some
    have hl := hb.lt
    have hml := hy.strlen
    obtain ⟨cs, b1, b2, b3, b4, b5⟩ := hb
    refine wp_append_lies w s x t ho base e i z strO.n 16 ht hi hz hsize hby2 hzs (by decide) _ 0 cs hs b1 ad n k (ys.map Value.string) hx (by rw [List.length_map, hn]; exact (Nat.mul_one _).symm) hc (fun u hu => by
      obtain ⟨y, _, rfl⟩ := List.mem_map.1 hu; rfl) hm (by unfold maxLen; omega) (by omega) hbase w.heap.size rfl ?_
    intro g' cap w' hown hgr hat _
    have hcs : cs = [] := by
      have := b1.1
      exact List.eq_nil_of_length_eq_zero (by simpa using this)
    subst hcs
    refine h _ _ ⟨ys.map Value.string, by rw [← hn]; simpa using hown, strs_cells _ _ hml, fun _ _ h9 => (by cases h9), List.nodup_nil, fun _ h9 => by cases h9⟩ (hx0.grown hgr fun g9 hg9 => Nat.le_trans h0 (hl.2 g9 hg9).2) fun b hb hne => hgr.block b hb (fun e9 => hne (by simpa [Value.ownBlock] using e9))
  · have hn0 : n = 0 := by omega
    subst hn0
    have hys : ys = [] := List.eq_nil_of_length_eq_zero hn.symm
    subst hys
    have hr : (Builtin.append_ #[t, t] o.type #[.slice (some ⟨g, 0, none⟩) 0 0, .slice (some ad) 0 k]).run P w = .ok (.slice (some ⟨g, 0, none⟩) 0 0) w := by
      simp [Builtin.append_, run_underlying ht, sizeOf, typeInfo, hi, Builtin.lenOf, Builtin.firstCells, storeCells, loadCells, loadCellsFrom]
    unfold Oper.wp execOp
    simp only [ho, resolve, invoke, builtin, Sem.run_bind, Sem.run_pure, Result.andThen_ok, List.map_toArray, List.map_cons, List.map_nil, hs, hx, hr]
    exact h _ _ hb hx0 fun _ _ _ => rfl
/-- a block of another element type is none of the row's -/
theorem Bld.own_ne {w : World} {base g : Nat} {e T : TypeId} {v : Value} {xs : List ByteArray} {cs9 : List Value} (h : Bld strO w base e v xs []) (h8 : Blk w g T cs9) (hT : e ≠ T) : ∃ F, OwnSl strO w v xs F ∧ F.Nodup ∧ (∀ b ∈ F, base ≤ b) ∧ g ∉ F := by
  obtain ⟨cs, h1, h2, h3, h4, h5⟩ := h
  rcases h1.2 with ⟨rfl, hn⟩ | ⟨g', cap, cur, rfl, hb, hh, hnc, hcm, hcs, htake⟩
  · have : xs = [] := List.eq_nil_of_length_eq_zero hn
    exact ⟨[], .inl ⟨this, rfl, none, 0, rfl, Nat.zero_le _⟩, List.nodup_nil, (fun _ h => by cases h), (fun h => by cases h)⟩
  · refine ⟨[g'], .inr ⟨g', 0, cap, cur, e, [], rfl, ⟨hnc, hcm⟩, hh, rfl, ?_, by rw [List.drop_zero, htake]; exact h2⟩, by simp, fun b hb2 => ?_, fun hm => ?_⟩
    · rw [hcs, Nat.zero_add]; exact Nat.mul_le_mul_right _ hnc
    · rw [List.mem_singleton] at hb2
      rw [hb2]; exact hb
    · rw [List.mem_singleton] at hm
      subst hm
      have e9 := hh.symm.trans h8.out
      injection e9 with e9
      injection e9 with _ e9 _
      exact hT e9
end Go.Proofs.YtfieimmlcopbhaaGreatDoor

namespace Go.Proofs.YtfieimmlcopbhaaGreatDoor
open Go.RowKit
end Go.Proofs.YtfieimmlcopbhaaGreatDoor
