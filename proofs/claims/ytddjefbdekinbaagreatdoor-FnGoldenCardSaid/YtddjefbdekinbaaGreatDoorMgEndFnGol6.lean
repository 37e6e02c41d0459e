/-
  SEVERAL SMALL TEXTS LAID TOGETHER: Join, RecS, StrC, V2, Norm, Draw, AppN, CopyM, Door, CmpR, NormW, DrawM, MarkRS, Big, NormX, OrdC.
-/
import Derived.Test.YtddjefbdekinbaaGreatDoorMgEndFnGol1
import Derived.Test.YtddjefbdekinbaaGreatDoorMgEndFnGol0
import Derived.Test.YtddjefbdekinbaaGreatDoorMgEndFnGol3
import Derived.Test.YtddjefbdekinbaaGreatDoorMgEndFnGol4
import Derived.StillTailTactics
import Derived.Deep.QuietTactic
import Derived.BigQuiet
import Derived.Test.YtddjefbdekinbaaGreatDoorMgEndFnGol2
import Derived.Laws.Bits128
import Derived.Laws.OwnMore
import Derived.Laws.IdiomCopy
import Derived.LaidLaws
import Derived.Lay
import Derived.Handed
import Derived.JoinedAt
import Derived.Laws.IdiomStrings
import Derived.Laws.Concat

namespace Go.Proofs.YtddjefbdekinbaaGreatDoor
open Go.RowKit
/-- texts joined by a separator -/
def joinS (xs : List ByteArray) (sep : ByteArray) : ByteArray := ⟨(Go.Lib.join (xs.map (·.data.toList)) sep.data.toList).toArray⟩
theorem joinS_nil (sep : ByteArray) : joinS [] sep = ⟨#[]⟩ := rfl
theorem joinS_data (xs : List ByteArray) (sep : ByteArray) : (joinS xs sep).data.toList = Go.Lib.join (xs.map (·.data.toList)) sep.data.toList := by unfold joinS; simp
theorem joinTail_append (sep : List UInt8) (a b : List (List UInt8)) : Go.Lib.joinTail sep (a ++ b) = Go.Lib.joinTail sep a ++ Go.Lib.joinTail sep b := by unfold Go.Lib.joinTail; simp
theorem joinS_one (x sep : ByteArray) : joinS [x] sep = x := by
  apply Go.WideShapes.bytes_inj
  rw [joinS_data]
  exact Go.Lib.join_one _ _
theorem joinS_snoc (xs : List ByteArray) (x sep : ByteArray) (h : xs ≠ []) : joinS (xs ++ [x]) sep = joinS xs sep ++ sep ++ x := by
  cases xs with
  | nil => exact absurd rfl h
  | cons y ys =>
    apply Go.WideShapes.bytes_inj
    simp only [joinS_data, ByteArray.data_append, Array.toList_append, List.map_cons, List.cons_append, List.map_append, Go.Lib.join_cons, joinTail_append]
    simp [Go.Lib.joinTail]
/-- the next text: with the separator ahead, if it is not the first -/
theorem joinS_step (xs : List ByteArray) (k : Nat) (h : k < xs.length) (sep : ByteArray) : joinS (xs.take (k + 1)) sep = if 0 < k then joinS (xs.take k) sep ++ sep ++ xs[k] else xs[k] := by
  rw [List.take_succ_eq_append_getElem h]
  split
  · rename_i hk
    rw [joinS_snoc _ _ _ (List.ne_nil_of_length_pos (by rw [List.length_take]; omega))]
  · have : k = 0 := by omega
    subst this
    simp [joinS_one]
theorem joinS_size (B : Nat) (sep : ByteArray) : ∀ (xs : List ByteArray), (∀ x ∈ xs, x.size ≤ B) → (joinS xs sep).size ≤ xs.length * (B + sep.size) := by
  intro xs hx
  have h : ∀ k, k ≤ xs.length → (joinS (xs.take k) sep).size ≤ k * (B + sep.size) := by
    intro k
    induction k with
    | zero => intro _; rw [List.take_zero, joinS_nil]; exact Nat.zero_le _
    | succ k ih =>
      intro hk
      rw [joinS_step xs k (by omega), Nat.add_mul, Nat.one_mul]
      have h1 := ih (by omega)
      have h2 := hx xs[k] (List.getElem_mem _)
      split
      · rw [ByteArray.size_append, ByteArray.size_append]; omega
      · have := Nat.zero_le (k * (B + sep.size)); omega
  have := h xs.length (Nat.le_refl _)
  rwa [List.take_length] at this

end Go.Proofs.YtddjefbdekinbaaGreatDoor

namespace Go.Proofs.YtddjefbdekinbaaGreatDoor
open Go.RowKit

theorem Sl.record {w : World} {A : Option Addr} {n cap : Nat} {xs : List Record} (h : Sl recordR w (.slice A n cap) xs) {i : Nat} (hi : i < xs.length) :
    ∃ b off A2 cap2, A = some ⟨b, off, none⟩ ∧ xs[i].ok ∧ Sl strR w (.slice A2 xs[i].fields.length cap2) xs[i].fields ∧ w.cell? ⟨b, off + i * 4, none⟩ = some (.int .i64 xs[i].source) ∧ w.cell? ⟨b, off + i * 4 + 1, none⟩ = some (.int .i64 xs[i].key) ∧ w.cell? ⟨b, off + i * 4 + 2, none⟩ = some (.int .i64 xs[i].version) ∧ w.cell? ⟨b, off + i * 4 + 3, none⟩ = some (.slice A2 xs[i].fields.length cap2) := by
  obtain ⟨b, off, cs, rfl, ⟨m, rfl, hok, hs⟩, hc⟩ := h.at_ hi
  have hs' := hs
  obtain ⟨A2, cap2, rfl, _⟩ := hs
  exact ⟨b, off, A2, cap2, rfl, hok, hs', by simpa [recordR, Record.cells] using hc 0 (by simp [recordR]), by simpa [recordR, Record.cells] using hc 1 (by simp [recordR]), by simpa [recordR, Record.cells] using hc 2 (by simp [recordR]), by simpa [recordR, Record.cells] using hc 3 (by simp [recordR])⟩

theorem infoRecord : (Tryz.prog.info? 34).map (fun i => (i.zero, i.size, i.bytes)) = some (some (.agg #[.int .i64 0, .int .i64 0, .int .i64 0, .slice none 0 0]), 4, 48) := by kernel_rfl
def recordZ : List Value := [.int .i64 0, .int .i64 0, .int .i64 0, .slice none 0 0]

end Go.Proofs.YtddjefbdekinbaaGreatDoor

namespace Go.Proofs.YtddjefbdekinbaaGreatDoor
open Go.RowKit

theorem bless_irr (l : List UInt8) : Op.bytesLess l l = false := by
  induction l with
  | nil => rfl
  | cons a l ih => simp [Op.bytesLess, ih]
def cmpS (a b : ByteArray) : Int := if Op.bytesLess a.toList b.toList then -1 else if a.toList == b.toList then 0 else 1
theorem toList_inj {a b : ByteArray} (h : (a.toList == b.toList) = true) : a = b := by
  cases Classical.em (a = b) with
  | inl e => exact e
  | inr e => rw [str_ne e] at h; cases h
theorem cmpS_lt {a b : ByteArray} (h : Op.bytesLess a.toList b.toList = true) : cmpS a b = -1 := by unfold cmpS; rw [h]; rfl
theorem cmpS_gt {a b : ByteArray} (h : Op.bytesLess a.toList b.toList = false) (h2 : (a.toList == b.toList) = false) : cmpS a b = 1 := by unfold cmpS; rw [h, h2]; rfl
theorem cmpS_eq {a b : ByteArray} (h : (a.toList == b.toList) = true) : cmpS a b = 0 := by
  have e := toList_inj h
  subst e
  unfold cmpS; rw [bless_irr, h]; rfl
theorem cmpS_zero {a b : ByteArray} : cmpS a b = 0 ↔ a = b := by
  refine ⟨fun h => ?_, fun h => cmpS_eq (str_eq h)⟩
  unfold cmpS at h
  split at h
  · omega
  · split at h
    · rename_i e; exact toList_inj e
    · omega
theorem cmpS_64 (a b : ByteArray) : I64 (cmpS a b) := by unfold I64 cmpS; split <;> (try split) <;> omega
def cmpSL : List ByteArray → List ByteArray → Int
  | [], [] => 0
  | [], _ :: _ => -1
  | _ :: _, [] => 1
  | x :: xs, y :: ys => if cmpS x y = 0 then cmpSL xs ys else cmpS x y
theorem cmpSL_skip : ∀ {xs ys : List ByteArray} {k : Nat}, xs.take k = ys.take k → k ≤ xs.length → k ≤ ys.length → cmpSL xs ys = cmpSL (xs.drop k) (ys.drop k)
  | _, _, 0, _, _, _ => rfl
  | [], _, k + 1, _, h, _ => by simp at h
  | _ :: _, [], k + 1, _, _, h => by simp at h
  | x :: xs, y :: ys, k + 1, h, h1, h2 => by
    simp only [List.take_succ_cons, List.cons.injEq] at h
    rw [cmpSL, if_pos (cmpS_zero.2 h.1), List.drop_succ_cons, List.drop_succ_cons]
    exact cmpSL_skip h.2 (by simpa using h1) (by simpa using h2)
theorem cmpSL_at {xs ys : List ByteArray} {k : Nat} (h1 : k < xs.length) (h2 : k < ys.length) (h : xs.take k = ys.take k) (hne : ¬ cmpS xs[k] ys[k] = 0) : cmpSL xs ys = cmpS xs[k] ys[k] := by
  rw [cmpSL_skip h (by omega) (by omega), List.drop_eq_getElem_cons h1, List.drop_eq_getElem_cons h2, cmpSL, if_neg hne]
theorem cmpSL_end {xs ys : List ByteArray} {k : Nat} (hk1 : k ≤ xs.length) (hk2 : k ≤ ys.length) (h : xs.take k = ys.take k) (he : ¬ (k < xs.length ∧ k < ys.length)) : cmpSL xs ys = cmpI xs.length ys.length := by
  rw [cmpSL_skip h hk1 hk2]
  by_cases h1 : k < xs.length
  · have h2 : k = ys.length := by omega
    rw [List.drop_eq_getElem_cons h1, show ys.drop k = [] from List.drop_of_length_le (by omega), cmpSL]
    unfold cmpI; rw [if_neg (by omega), if_pos (by omega)]
  · rw [show xs.drop k = [] from List.drop_of_length_le (by omega)]
    by_cases h2 : k < ys.length
    · rw [List.drop_eq_getElem_cons h2, cmpSL]
      unfold cmpI; rw [if_pos (by omega)]
    · rw [show ys.drop k = [] from List.drop_of_length_le (by omega), cmpSL]
      unfold cmpI; rw [if_neg (by omega), if_neg (by omega)]
theorem cmpSL_zero : ∀ {xs ys : List ByteArray}, cmpSL xs ys = 0 ↔ xs = ys
  | [], [] => by simp [cmpSL]
  | [], _ :: _ => by simp [cmpSL]
  | _ :: _, [] => by simp [cmpSL]
  | x :: xs, y :: ys => by
    rw [cmpSL]
    split
    · rename_i h; rw [cmpSL_zero]; simp [cmpS_zero.1 h]
    · rename_i h
      refine ⟨fun e => absurd e h, fun e => ?_⟩
      injection e with e1 e2
      exact absurd (cmpS_zero.2 e1) h
theorem cmpSL_64 : ∀ (xs ys : List ByteArray), I64 (cmpSL xs ys)
  | [], [] => by simp [cmpSL, I64]
  | [], _ :: _ => by simp [cmpSL, I64]
  | _ :: _, [] => by simp [cmpSL, I64]
  | x :: xs, y :: ys => by
    rw [cmpSL]
    split
    · exact cmpSL_64 xs ys
    · exact cmpS_64 _ _

set_option maxHeartbeats 400000 in
theorem cmp_isNaN_s (a : ByteArray) (w : World) :
    Calls Tryz.prog 78 #[.string a] w fun e w2 => e = .returned (.bool false) ∧ w = w2 := by
  go_enter Tryz.func78, Tryz.ntmps78
  go_wp2
  go_ret
  exact ⟨rfl, rfl⟩
set_option maxHeartbeats 400000 in
theorem cmp_Compare_s (a b : ByteArray) (w : World) :
    Calls Tryz.prog 63 #[.string a, .string b] w fun e w2 => e = .returned (.int .i64 (cmpS a b)) ∧ w = w2 := by
  cases hl : Op.bytesLess a.toList b.toList with
  | true =>
    have H := hid (cmpS_lt hl)
    go_enter Tryz.func63, Tryz.ntmps63
    go_wp2_with (go_at_call 78; refine (cmp_isNaN_s _ _).mono ?_; rintro e w2 ⟨rfl, rfl⟩)
    go_ret
    exact ⟨ret_int H.out.symm, rfl⟩
  | false =>
    cases he : (a.toList == b.toList) with
    | true =>
      have H := hid (cmpS_eq he)
      go_enter Tryz.func63, Tryz.ntmps63
      go_wp2_with (go_at_call 78; refine (cmp_isNaN_s _ _).mono ?_; rintro e w2 ⟨rfl, rfl⟩)
      go_ret
      exact ⟨ret_int H.out.symm, rfl⟩
    | false =>
      have H := hid (cmpS_gt hl he)
      go_enter Tryz.func63, Tryz.ntmps63
      go_wp2_with (go_at_call 78; refine (cmp_isNaN_s _ _).mono ?_; rintro e w2 ⟨rfl, rfl⟩)
      go_ret
      exact ⟨ret_int H.out.symm, rfl⟩

set_option maxHeartbeats 400000 in
theorem slices_Compare_s (v u : Value) (xs ys : List ByteArray) (w : World) (h : Sl strR w v xs) (k : Sl strR w u ys) :
    Calls Tryz.prog 49 #[v, u] w fun e w2 => e = .returned (.int .i64 (cmpSL xs ys)) ∧ w = w2 := by
  obtain ⟨A, cap, rfl, hm⟩ := h.form
  obtain ⟨B, cap2, rfl, hm2⟩ := k.form
  go_enter Tryz.func49, Tryz.ntmps49
  go_wp2
  go_loop [11] (fun i => ∃ j : Nat, j ≤ xs.length ∧ j ≤ ys.length ∧ i = .int .i64 j ∧ xs.take j = ys.take j) (fun i => xs.length - (intOf i).toNat)
  case atStart => exact ⟨0, Nat.zero_le _, Nat.zero_le _, rfl, by simp⟩
  case round =>
    obtain ⟨j, hj1, hj2, rfl, he⟩ := hrel
    have HE := hid he
    clear he
    by_cases hlt : j < xs.length
    · obtain ⟨b, off, rfl, hI, hc⟩ := h.str hlt
      by_cases hlt2 : j < ys.length
      · obtain ⟨b2, off2, rfl, hI2, hc2⟩ := k.str hlt2
        have h64 := (cmpS_64 xs[j] ys[j]).out
        by_cases h0 : cmpS xs[j] ys[j] = 0
        · have H0 := hid h0
          have h0' : (cmpS xs[j] ys[j] != 0) = false := by simp [h0]
          clear h0
          go_wp2_with (go_at_call 63; refine (cmp_Compare_s _ _ _).mono ?_; rintro e w2 ⟨rfl, rfl⟩)
          go_round
          case rel => exact ⟨j + 1, by omega, by omega, by go_num, take_snoc_eq hlt hlt2 (cmpS_zero.1 H0.out) HE.out⟩
          case measure => simp [intOf]; omega
        · have H0 := hid h0
          have h0' : (cmpS xs[j] ys[j] != 0) = true := by simp [h0]
          clear h0
          go_wp2_with (go_at_call 63; refine (cmp_Compare_s _ _ _).mono ?_; rintro e w2 ⟨rfl, rfl⟩)
          go_ret
          exact ⟨ret_int (cmpSL_at hlt hlt2 HE.out H0.out).symm, rfl⟩
      · have HX := hid (cmpSL_end hj1 hj2 HE.out (by omega))
        go_wp2_with fail
        go_ret
        exact ⟨ret_int (by rw [HX.out]; unfold cmpI; rw [if_neg (by omega), if_pos (by omega)]), rfl⟩
    · have HX := hid (cmpSL_end hj1 hj2 HE.out (by omega))
      by_cases hll : xs.length < ys.length
      · go_wp2_with fail
        go_ret
        exact ⟨ret_int (by rw [HX.out]; unfold cmpI; rw [if_pos (by omega)]), rfl⟩
      · go_wp2_with fail
        go_ret
        exact ⟨ret_int (by rw [HX.out]; unfold cmpI; rw [if_neg (by omega), if_neg (by omega)]), rfl⟩
end Go.Proofs.YtddjefbdekinbaaGreatDoor

namespace Go.Proofs.YtddjefbdekinbaaGreatDoor
open Go.RowKit

def cmpB (a b : Bool) : Int := if a == b then 0 else if b then -1 else 1
/-- the first that is not 0 -/
def firstNZ : List Int → Int
  | [] => 0
  | x :: xs => if x ≠ 0 then x else firstNZ xs
def cmpV (x y : Verdict) : Int := firstNZ [cmpI x.a y.a, cmpI x.b y.b, cmpI x.time y.time, cmpB x.same y.same]

theorem cmpB_64 (a b : Bool) : I64 (cmpB a b) := by unfold I64 cmpB; split <;> (try split) <;> omega

set_option maxHeartbeats 400000 in
theorem cmp_isNaN (a : Int) (w : World) :
    Calls Tryz.prog 62 #[.int .i64 a] w fun e w2 => e = .returned (.bool false) ∧ w = w2 := by
  go_enter Tryz.func62, Tryz.ntmps62
  go_wp2
  all_goals go_ret
  all_goals (refine ⟨?_, rfl⟩; simp)

set_option maxHeartbeats 400000 in
theorem cmp_Compare (a b : Int) (w : World) :
    Calls Tryz.prog 48 #[.int .i64 a, .int .i64 b] w fun e w2 => e = .returned (.int .i64 (cmpI a b)) ∧ w2 = w := by
  go_enter Tryz.func48, Tryz.ntmps48
  go_wp2_with (go_at_call 62; refine (cmp_isNaN _ _).mono ?_; rintro e w2 ⟨rfl, rfl⟩)
  all_goals go_ret
  all_goals refine ⟨?_, rfl⟩
  all_goals (simp_all [cmpI]; try omega)

theorem firstNZ_append (l r : List Int) (h : ∀ x ∈ l, x = 0) : firstNZ (l ++ r) = firstNZ r := by
  induction l with
  | nil => rfl
  | cons x l ih => simp [firstNZ, h x (List.mem_cons_self ..), ih (fun y hy => h y (List.mem_cons_of_mem _ hy))]

theorem firstNZ_at (xs : List Int) (k : Nat) (hlt : k < xs.length) (hz : ∀ x ∈ xs.take k, x = 0) (h0 : ¬ xs[k] = 0) : firstNZ xs = xs[k] := by
  have e : xs = xs.take k ++ (xs[k] :: xs.drop (k + 1)) := by simp
  have e2 : firstNZ (xs.take k ++ (xs[k] :: xs.drop (k + 1))) = xs[k] := by
    rw [firstNZ_append _ _ hz]; simp [firstNZ, h0]
  rw [← e] at e2; exact e2
theorem firstNZ_all (xs : List Int) (k : Nat) (hk : ¬ k < xs.length) (hz : ∀ x ∈ xs.take k, x = 0) : firstNZ xs = 0 := by
  rw [List.take_of_length_le (by omega)] at hz
  have := firstNZ_append xs [] hz
  rw [List.append_nil] at this
  exact this

set_option maxHeartbeats 400000 in
theorem cmp_Or (v : Value) (xs : List Int) (w : World) (h : Sl intR w v xs) :
    Calls Tryz.prog 46 #[v] w fun e w2 => e = .returned (.int .i64 (firstNZ xs)) ∧ w = w2 := by
  obtain ⟨A, cap, rfl, hm⟩ := h.form
  go_enter Tryz.func46, Tryz.ntmps46
  go_wp2
  go_loop [5, 8] (fun t i => ∃ k : Nat, k ≤ xs.length ∧ i = .int .i64 k ∧ ∀ x ∈ xs.take k, x = 0) (fun _ i => xs.length - (intOf i).toNat)
  case atStart => exact ⟨0, Nat.zero_le _, rfl, by simp⟩
  case round =>
    obtain ⟨k, hk, rfl, hz⟩ := hrel
    have HZ := hid hz
    clear hz
    by_cases hlt : k < xs.length
    · obtain ⟨b, off, rfl, hb, hc⟩ := h.int hlt
      by_cases h0 : xs[k] = 0
      · have h0' : (xs[k] != 0) = false := by simp [h0]
        have H0 := hid h0
        clear h0
        go_wp2
        go_round
        case rel => exact ⟨k + 1, by omega, by go_num, by
          intro x hx
          rw [List.take_succ_eq_append_getElem hlt] at hx
          rcases List.mem_append.1 hx with hx | hx
          · exact HZ.out x hx
          · simp only [List.mem_singleton] at hx; rw [hx]; exact H0.out⟩
        case measure => simp [intOf]; omega
      · have h0' : (xs[k] != 0) = true := by simp [h0]
        go_wp2
        go_ret
        exact ⟨ret_int (firstNZ_at xs k hlt HZ.out h0).symm, rfl⟩
    · go_wp2
      go_ret
      exact ⟨ret_int (firstNZ_all xs k hlt HZ.out).symm, rfl⟩

end Go.Proofs.YtddjefbdekinbaaGreatDoor

namespace Go.Proofs.YtddjefbdekinbaaGreatDoor
open Go.RowKit

/-! ### The plain law -/
def foldB (b : UInt8) : UInt8 := if 65 ≤ b.toNat ∧ b.toNat ≤ 90 then b + 32 else b
def wordB (b : UInt8) : Bool := decide (97 ≤ b.toNat ∧ b.toNat ≤ 122) || decide (65 ≤ b.toNat ∧ b.toNat ≤ 90) || decide (48 ≤ b.toNat ∧ b.toNat ≤ 57)
def markB (b : UInt8) : UInt8 := if wordB b = true then b else 32
def stripL (l : List UInt8) : List UInt8 := (l.filter fun b => !(b == 39)).map markB
/-- what is written; did a space come last? -/
def colStep (st : List UInt8 × Bool) (b : UInt8) : List UInt8 × Bool := if b = 32 then (st.1, true) else ((if st.1 ≠ [] ∧ st.2 = true then st.1 ++ [32] else st.1) ++ [b], false)
def colP (l : List UInt8) : List UInt8 × Bool := l.foldl colStep ([], false)
def normL (l : List UInt8) : List UInt8 := (colP (stripL (l.map foldB))).1
def normS (s : ByteArray) : ByteArray := ⟨(normL s.data.toList).toArray⟩
theorem colP_step (l : List UInt8) (b : UInt8) : colP (l ++ [b]) = colStep (colP l) b := by unfold colP; rw [List.foldl_append]; rfl
theorem colP_take (s : ByteArray) (k : Nat) (h : k < s.size) : colP (s.data.toList.take (k + 1)) = colStep (colP (s.data.toList.take k)) s[k] := by rw [bytes_take s k h, colP_step]
theorem col_space (l : List UInt8) : (colP l).2 = decide (l.getLast? = some 32) := by
  rcases List.eq_nil_or_concat l with rfl | ⟨l, b, rfl⟩
  · rfl
  · rw [List.concat_eq_append, colP_step]
    unfold colStep
    by_cases h : b = 32
    · simp [h]
    · simp [h]
theorem col_last (l : List UInt8) : (colP l).1.getLast? ≠ some 32 := by
  rcases List.eq_nil_or_concat l with rfl | ⟨l, b, rfl⟩
  · simp [colP]
  · rw [List.concat_eq_append, colP_step]
    unfold colStep
    by_cases h : b = 32
    · rw [if_pos h]; exact col_last l
    · rw [if_neg h]; simp [h]
termination_by l.length
decreasing_by simp_all
theorem col_len (l : List UInt8) : (colP l).1.length + (if (colP l).2 = true then 1 else 0) ≤ l.length := by
  rcases List.eq_nil_or_concat l with rfl | ⟨l, b, rfl⟩
  · simp [colP]
  · have ih := col_len l
    rw [List.concat_eq_append, colP_step]
    unfold colStep
    by_cases h : b = 32
    · rw [if_pos h]; simp only [if_true, List.length_append, List.length_singleton]; split at ih <;> omega
    · rw [if_neg h]
      simp only [List.length_append, List.length_singleton, Bool.false_eq_true, if_false]
      split
      · rename_i hc
        rw [if_pos hc.2] at ih
        simp only [List.length_append, List.length_singleton]; omega
      · split at ih <;> omega
termination_by l.length
decreasing_by simp_all
/-- what the program has written -/
def colI (l : List UInt8) : List UInt8 := (colP l).1 ++ (if (colP l).1 ≠ [] ∧ (colP l).2 = true then [32] else [])
theorem colI_len (l : List UInt8) : (colI l).length ≤ l.length := by
  have := col_len l
  unfold colI
  split
  · rename_i h
    rw [if_pos h.2] at this
    simp; omega
  · split at this <;> simp <;> omega
theorem colI_word {l : List UInt8} {b : UInt8} (h : ¬ b = 32) : colI (l ++ [b]) = colI l ++ [b] := by
  unfold colI
  rw [colP_step]
  unfold colStep
  rw [if_neg h]
  split <;> simp
theorem colI_skip {l : List UInt8} (h : colI l = [] ∨ (colI l).getLast? = some 32) : colI (l ++ [32]) = colI l := by
  unfold colI at *
  rw [colP_step]
  unfold colStep
  rw [if_pos rfl]
  by_cases h1 : (colP l).1 = []
  · simp [h1]
  · by_cases h2 : (colP l).2 = true
    · simp [h1, h2]
    · exfalso
      rw [if_neg (fun h9 => h2 h9.2), List.append_nil] at h
      rcases h with h | h
      · exact h1 h
      · exact col_last l h
theorem colI_space {l : List UInt8} (h : ¬ colI l = []) (h2 : ¬ (colI l).getLast? = some 32) : colI (l ++ [32]) = colI l ++ [32] := by
  unfold colI at *
  rw [colP_step]
  unfold colStep
  rw [if_pos rfl]
  by_cases h1 : (colP l).1 = []
  · exact absurd (by simp [h1]) h
  · by_cases h3 : (colP l).2 = true
    · rw [if_pos ⟨h1, h3⟩] at h2
      simp at h2
    · simp [h1, h3]
theorem colI_trim (l : List UInt8) : Go.Lib.trimSuffix (colI l) [32] = (colP l).1 := by
  have h0 := col_last l
  unfold colI Go.Lib.trimSuffix Go.Lib.hasSuffix
  split
  · simp
  · rw [List.append_nil]
    rw [if_neg]
    intro h
    have h2 := List.isSuffixOf_iff_suffix.1 h
    obtain ⟨t, ht⟩ := h2
    rw [← ht] at h0
    simp at h0
/-- 'strings.ReplaceAll(s, "'", "")' -/
theorem index_one (c : UInt8) : ∀ l : List UInt8, Go.Lib.index l [c] = Go.Lib.indexByte l c
  | [] => rfl
  | b :: l => by
    unfold Go.Lib.index Go.Lib.indexByte
    rw [index_one c l]
    by_cases h : b = c
    · subst h; simp
    · have h' : ¬ c = b := fun e => h e.symm
      simp [h, h']
theorem indexByte_split (c : UInt8) : ∀ (l : List UInt8) (i : Nat), Go.Lib.indexByte l c = i → l.filter (fun b => !(b == c)) = l.take i ++ (l.drop (i + 1)).filter (fun b => !(b == c)) ∧ i < l.length
  | [], i, h => by unfold Go.Lib.indexByte at h; omega
  | b :: l, i, h => by
    unfold Go.Lib.indexByte at h
    by_cases hb : b = c
    · subst hb
      simp only [beq_self_eq_true, if_true] at h
      have hi : i = 0 := by omega
      subst hi
      simp
    · have hge := Go.Lib.indexByte_ge l c
      simp only [beq_iff_eq, hb, if_false] at h
      by_cases hm : Go.Lib.indexByte l c = -1
      · simp only [hm, beq_self_eq_true, if_true] at h; omega
      · simp only [hm, if_false] at h
        obtain ⟨j, rfl⟩ : ∃ j, i = j + 1 := ⟨i - 1, by omega⟩
        obtain ⟨h1, h2⟩ := indexByte_split c l j (by omega)
        refine ⟨?_, by simp; omega⟩
        simp [hb, h1]
theorem indexByte_miss (c : UInt8) : ∀ l : List UInt8, Go.Lib.indexByte l c = -1 → l.filter (fun b => !(b == c)) = l
  | [], _ => rfl
  | b :: l, h => by
    unfold Go.Lib.indexByte at h
    have hge := Go.Lib.indexByte_ge l c
    by_cases hb : b = c
    · simp [hb] at h
    · simp only [beq_iff_eq, hb, if_false] at h
      by_cases hm : Go.Lib.indexByte l c = -1
      · simp [hb, indexByte_miss c l hm]
      · simp [hm] at h; omega
theorem replaceK_one (c : UInt8) : ∀ (k : Nat) (l : List UInt8), (l.filter fun b => b == c).length ≤ k → Go.Lib.replaceK [c] [] k l = l.filter fun b => !(b == c)
  | 0, l, h => by
    unfold Go.Lib.replaceK
    symm
    rw [List.filter_eq_self]
    intro b hb
    cases hbc : b == c with
    | false => rfl
    | true =>
      have : b ∈ l.filter fun b => b == c := List.mem_filter.2 ⟨hb, hbc⟩
      rw [List.length_eq_zero_iff.1 (Nat.le_zero.1 h)] at this
      cases this
  | k + 1, l, h => by
    unfold Go.Lib.replaceK
    rw [index_one]
    by_cases hm : Go.Lib.indexByte l c = -1
    · rw [if_pos (by simp [hm]), indexByte_miss c l hm]
    · have hge := Go.Lib.indexByte_ge l c
      obtain ⟨i, hi⟩ : ∃ i : Nat, Go.Lib.indexByte l c = i := ⟨(Go.Lib.indexByte l c).toNat, by omega⟩
      rw [if_neg (by simp [hm]), hi]
      obtain ⟨h1, h2⟩ := indexByte_split c l i hi
      have h3 := (Go.Lib.indexByte_some hi).1
      have hc : l[i] = c := by rw [List.getElem?_eq_getElem h2] at h3; exact Option.some.inj h3
      have hf : (l.drop (i + 1)).filter (fun b => b == c) = ((l.drop (i + 1)).filter fun b => b == c) := rfl
      have hlen : ((l.drop (i + 1)).filter fun b => b == c).length + 1 ≤ (l.filter fun b => b == c).length := by
        have e : l = l.take i ++ (l[i] :: l.drop (i + 1)) := by simp
        have e2 : (l.filter fun b => b == c) = (l.take i).filter (fun b => b == c) ++ ((l[i] :: l.drop (i + 1)).filter fun b => b == c) := by rw [← List.filter_append, ← e]
        rw [e2, List.length_append, List.filter_cons_of_pos (by simp [hc]), List.length_cons]
        omega
      rw [Int.toNat_natCast, List.append_nil, List.length_singleton, replaceK_one c k _ (by omega), h1]
theorem count_filter (c : UInt8) : ∀ (f : Nat) (l : List UInt8), l.length < f → Go.Lib.countFrom [c] f l = (l.filter fun b => b == c).length
  | 0, l, h => by omega
  | f + 1, l, h => by
    unfold Go.Lib.countFrom
    rw [index_one]
    by_cases hm : Go.Lib.indexByte l c = -1
    · rw [if_pos (by simp [hm])]
      have h1 := indexByte_miss c l hm
      symm
      rw [List.length_eq_zero_iff, List.filter_eq_nil_iff]
      intro b hb hbc
      rw [← h1] at hb
      have := (List.mem_filter.1 hb).2
      simp [hbc] at this
    · have hge := Go.Lib.indexByte_ge l c
      obtain ⟨i, hi⟩ : ∃ i : Nat, Go.Lib.indexByte l c = i := ⟨(Go.Lib.indexByte l c).toNat, by omega⟩
      rw [if_neg (by simp [hm]), hi, Int.toNat_natCast, List.length_singleton]
      obtain ⟨_, h2⟩ := indexByte_split c l i hi
      obtain ⟨h3, h4⟩ := Go.Lib.indexByte_some hi
      have hc : l[i] = c := by rw [List.getElem?_eq_getElem h2] at h3; exact Option.some.inj h3
      rw [count_filter c f _ (by simp; omega)]
      have e : l = l.take i ++ (l[i] :: l.drop (i + 1)) := by simp
      have e2 : (l.filter fun b => b == c) = (l.take i).filter (fun b => b == c) ++ ((l[i] :: l.drop (i + 1)).filter fun b => b == c) := by rw [← List.filter_append, ← e]
      have e3 : (l.take i).filter (fun b => b == c) = [] := by
        rw [List.filter_eq_nil_iff]
        intro b hb hbc
        obtain ⟨j, hj, rfl⟩ := List.getElem_of_mem hb
        have hj2 : j < i := by simp at hj; omega
        refine h4 j hj2 ?_
        rw [List.getElem?_eq_getElem (by omega)]
        simp at hbc
        simp [hbc]
      rw [e2, e3, List.nil_append, List.filter_cons_of_pos (by simp [hc]), List.length_cons]
      omega
theorem replaceAll_one (l : List UInt8) (c : UInt8) : Go.Lib.replaceAll l [c] [] = l.filter fun b => !(b == c) := by
  unfold Go.Lib.replaceAll Go.Lib.replace
  rw [if_neg (by simp)]
  unfold Go.Lib.replaceNum
  rw [if_pos (.inl (by decide))]
  unfold Go.Lib.count
  rw [replaceK_one]
  rw [count_filter c _ _ (Nat.lt_succ_self _)]
  exact Nat.le_refl _
end Go.Proofs.YtddjefbdekinbaaGreatDoor

namespace Go.Proofs.YtddjefbdekinbaaGreatDoor
open Go.RowKit

def u8R : Rep Int := ⟨1, fun _ cs x => cs = [.int .u8 x] ∧ 0 ≤ x ∧ x ≤ 255, fun h => by simp [h.1], fun _ h => h⟩
theorem reads_u8 {P : Program} {e : TypeId} (he : P.underlying e = some (.int .u8)) (hc : P.cellsOf e = 1) : Reads P e u8R :=
  ⟨hc, fun h => by
    obtain ⟨n, rfl, _, hw⟩ := DataW.trod_int he h
    exact ⟨n, rfl, by simpa [Lit.wf, IntKind.min, IntKind.max, IntKind.signed, IntKind.bits] using hw⟩⟩
theorem Sl.u8 {w : World} {A : Option Addr} {n cap : Nat} {xs : List Int} (h : Sl u8R w (.slice A n cap) xs) {i : Nat} (hi : i < xs.length) :
    ∃ b off, A = some ⟨b, off, none⟩ ∧ (0 ≤ xs[i] ∧ xs[i] ≤ 255) ∧ w.cell? ⟨b, off + i, none⟩ = some (.int .u8 xs[i]) := by
  obtain ⟨b, off, cs, rfl, ⟨rfl, hr⟩, hc⟩ := h.at_ hi
  exact ⟨b, off, rfl, hr, by simpa [u8R] using hc 0 (by simp [u8R])⟩
theorem rU8 : Reads Tryz.prog 5 u8R := reads_u8 Tryz.underlying5 (by kernel_rfl)
theorem rBytes : Reads Tryz.prog 22 (slR u8R) := reads_slice Tryz.underlying22 (by kernel_rfl) (by decide) rU8

theorem i64_and255 (n : Int) : bits .and .i64 n 255 = n % 256 := by
  have h255 : (BitVec.ofInt 64 255).toNat = 2 ^ 8 - 1 := by decide
  have key : (BitVec.ofInt 64 n &&& BitVec.ofInt 64 255).toNat = (n % ((2 ^ 64 : Nat) : Int)).toNat % 2 ^ 8 := by
    rw [BitVec.toNat_and, BitVec.toNat_ofInt, h255, Nat.and_two_pow_sub_one_eq_mod]
  show IntKind.i64.wrap ((BitVec.ofInt 64 n &&& BitVec.ofInt 64 255).toNat : Nat) = n % 256
  rw [key, IntKind.wrap_i64]
  omega
theorem i64_and30 (n : Int) : bits .and .i64 n 1073741823 = n % 1073741824 := by
  have h255 : (BitVec.ofInt 64 1073741823).toNat = 2 ^ 30 - 1 := by decide
  have key : (BitVec.ofInt 64 n &&& BitVec.ofInt 64 1073741823).toNat = (n % ((2 ^ 64 : Nat) : Int)).toNat % 2 ^ 30 := by
    rw [BitVec.toNat_and, BitVec.toNat_ofInt, h255, Nat.and_two_pow_sub_one_eq_mod]
  show IntKind.i64.wrap ((BitVec.ofInt 64 n &&& BitVec.ofInt 64 1073741823).toNat : Nat) = n % 1073741824
  rw [key, IntKind.wrap_i64]
  omega

/-- the cursor lies in block g; its bytes lie in w0 -/
def Cur (w0 w : World) (g : Nat) : Prop := ∃ (A : Option Addr) (cap : Nat) (bs : List Int) (p : Nat) (h : Int), Sl u8R w0 (.slice A bs.length cap) bs ∧ Ext w0 w ∧ w0.heap.size ≤ g ∧
  Blk w g 52 [.slice A bs.length cap, .int .i64 p, .int .i64 h] ∧ p ≤ bs.length ∧ I64 h
/-- all old blocks stand but g -/
def Kept (g : Nat) (w w2 : World) : Prop := w.heap.size ≤ w2.heap.size ∧ ∀ b, b < w.heap.size → b ≠ g → w2.heap[b]? = w.heap[b]?
theorem Kept.refl (g : Nat) (w : World) : Kept g w w := ⟨Nat.le_refl _, fun _ _ _ => rfl⟩
theorem Kept.trans {g : Nat} {a b c : World} (h : Kept g a b) (k : Kept g b c) : Kept g a c := ⟨Nat.le_trans h.1 k.1, fun i hi hg => (k.2 i (Nat.lt_of_lt_of_le hi h.1) hg).trans (h.2 i hi hg)⟩
theorem Ext.kept {g : Nat} {a b : World} (h : Ext a b) : Kept g a b := ⟨h.size, fun _ hi _ => h.block hi⟩
theorem Kept.set (g k : Nat) (u : Value) (w : World) : Kept g w (w.setCell ⟨g, k, none⟩ u) := ⟨by simp, fun b _ hb => keep_setCell hb⟩
theorem Cur.keep {w0 w w2 : World} {g : Nat} (h : Cur w0 w g) (x : Ext w0 w2) (k : w2.heap[g]? = w.heap[g]?) : Cur w0 w2 g :=
  let ⟨A, cap, bs, p, hh, h1, _, h3, h4, h5⟩ := h; ⟨A, cap, bs, p, hh, h1, x, h3, h4.keep k, h5⟩
theorem Cur.ext {w0 w w2 : World} {g : Nat} (h : Cur w0 w g) (x : Ext w w2) : Cur w0 w2 g := by
  obtain ⟨A, cap, bs, p, hh, h1, h2, h3, h4, h5⟩ := h
  exact ⟨A, cap, bs, p, hh, h1, h2.trans x, h3, h4.ext x, h5⟩

set_option maxHeartbeats 400000 in
set_option maxRecDepth 20000 in
theorem spec_l1Byte (w0 w : World) (g : Nat) (hc : Cur w0 w g) :
    Calls Tryz.prog 57 #[.pointer (some ⟨g, 0, none⟩)] w fun e w2 => ∃ x, e = .returned (.int .i64 x) ∧ (0 ≤ x ∧ x ≤ 255) ∧ Cur w0 w2 g ∧ Kept g w w2 := by
  obtain ⟨A, cap, bs, p, h, hb, hx, hg, hB, hp, hI⟩ := hc
  have hm := hb.cap_
  have hI' := hI.out
  obtain ⟨c0, f0⟩ := hB.cells
  have c2 : w.cell? ⟨g, 2, none⟩ = some (.int .i64 h) := c0 2
  have f2 : w.frozen? ⟨g, 2, none⟩ = false := f0 2
  clear c0 f0
  obtain ⟨u, hu⟩ : ∃ u, u = wrap64 (wrap64 (h * 6364136223846793005) + 1442695040888963407) := ⟨_, rfl⟩
  have HU := hid hu
  have S1 : Blk (w.setCell ⟨g, 2, none⟩ (.int .i64 u)) g 52 [.slice A bs.length cap, .int .i64 p, .int .i64 u] := Blk.store (done := [.slice A bs.length cap, .int .i64 p]) (z := .int .i64 h) (rest := []) (k := 2) hB rfl (.int .i64 u)
  obtain ⟨W1, hW⟩ : ∃ W1, W1 = w.setCell ⟨g, 2, none⟩ (.int .i64 u) := ⟨_, rfl⟩
  have hu64 : I64 u := by rw [hu]; unfold I64 wrap64; omega
  have hx1 : Ext w0 W1 := by rw [hW]; exact hx.setCell (by simpa using hg) _
  have hk1 : Kept g w W1 := by rw [hW]; exact Kept.set _ _ _ _
  rw [← hW] at S1
  have HW := hid hW
  clear hu hW
  obtain ⟨c0, f0⟩ := S1.cells
  have d0 : ∀ z : ExtOf W1, z.1.cell? ⟨g, 0, none⟩ = some (.slice A bs.length cap) := fun z => z.2.cell (c0 0)
  have d1 : ∀ z : ExtOf W1, z.1.cell? ⟨g, 1, none⟩ = some (.int .i64 p) := fun z => z.2.cell (c0 1)
  have d2 : ∀ z : ExtOf W1, z.1.cell? ⟨g, 2, none⟩ = some (.int .i64 u) := fun z => z.2.cell (c0 2)
  clear c0 f0
  by_cases hlt : p < bs.length
  · obtain ⟨b, off, rfl, hbd, hcb⟩ := hb.u8 hlt
    have d3 : ∀ z : ExtOf W1, z.1.cell? ⟨b, off + p, none⟩ = some (.int .u8 bs[p]) := fun z => (hx1.trans z.2).cell hcb
    go_enter Tryz.func57, Tryz.ntmps57
    go_wp2_with fail
    rw [← HU.out, ← HW.out]
    refine wp_region_ext (by kernel_rfl) (by kernel_rfl) ?_
    repeat (go_big_quiet_step ((fail)))
    refine wpQuiet_nil ?_
    rintro w4 ⟨⟨_, x4⟩, rfl⟩
    have e0 : ∀ z : ExtOf w4, z.1.cell? ⟨g, 0, none⟩ = some (.slice (some ⟨b, off, none⟩) bs.length cap) := fun z => d0 ⟨_, x4.trans z.2⟩
    have e1 : ∀ z : ExtOf w4, z.1.cell? ⟨g, 1, none⟩ = some (.int .i64 p) := fun z => d1 ⟨_, x4.trans z.2⟩
    go_wp2_with fail
    refine wp_region_ext (by kernel_rfl) (by kernel_rfl) ?_
    repeat (go_big_quiet_step ((fail)))
    refine wpQuiet_nil ?_
    rintro w5 ⟨⟨_, x5⟩, rfl⟩
    have k0 : ∀ z : ExtOf w5, z.1.cell? ⟨g, 0, none⟩ = some (.slice (some ⟨b, off, none⟩) bs.length cap) := fun z => e0 ⟨_, x5.trans z.2⟩
    have k1 : ∀ z : ExtOf w5, z.1.cell? ⟨g, 1, none⟩ = some (.int .i64 p) := fun z => e1 ⟨_, x5.trans z.2⟩
    have k3 : ∀ z : ExtOf w5, z.1.cell? ⟨b, off + p, none⟩ = some (.int .u8 bs[p]) := fun z => d3 ⟨_, (x4.trans x5).trans z.2⟩
    go_wp2_with fail
    refine wp_region_ext (by kernel_rfl) (by kernel_rfl) ?_
    repeat (go_big_quiet_step ((fail)))
    refine wpQuiet_nil ?_
    rintro w6 ⟨⟨_, x6⟩, rfl⟩
    have S6 := S1.ext ((x4.trans x5).trans x6)
    have m1 := (S6.cells).1 1
    have n1 := (S6.cells).2 1
    have m1 : w6.cell? ⟨g, 1, none⟩ = some (.int .i64 p) := m1
    go_wp2
    go_ret
    refine ⟨_, rfl, ?_, ⟨_, _, bs, p + 1, u, hb, ((hx1.trans ((x4.trans x5).trans x6)).setCell (by simpa using hg) _), hg, ?_, hlt, hu64⟩, (hk1.trans ((x4.trans x5).trans x6).kept).trans (Kept.set _ _ _ _)⟩
    · rw [i64_and255]; omega
    · have := Blk.store (done := [.slice (some ⟨b, off, none⟩) bs.length cap]) (z := .int .i64 p) (rest := [.int .i64 u]) (k := 1) S6 rfl (.int .i64 ((p : Int) + 1))
      exact this
  · go_enter Tryz.func57, Tryz.ntmps57
    go_wp2_with fail
    rw [← HU.out, ← HW.out]
    refine wp_region_ext (by kernel_rfl) (by kernel_rfl) ?_
    repeat (go_big_quiet_step ((fail)))
    refine wpQuiet_nil ?_
    rintro w4 ⟨⟨_, x4⟩, rfl⟩
    have e0 : ∀ z : ExtOf w4, z.1.cell? ⟨g, 0, none⟩ = some (.slice A bs.length cap) := fun z => d0 ⟨_, x4.trans z.2⟩
    have e1 : ∀ z : ExtOf w4, z.1.cell? ⟨g, 1, none⟩ = some (.int .i64 p) := fun z => d1 ⟨_, x4.trans z.2⟩
    go_wp2_with fail
    refine wp_region_ext (by kernel_rfl) (by kernel_rfl) ?_
    repeat (go_big_quiet_step ((fail)))
    refine wpQuiet_nil ?_
    rintro w5 ⟨⟨_, x5⟩, rfl⟩
    go_wp2
    go_ret
    refine ⟨_, rfl, ?_, ⟨_, _, bs, p, u, hb, hx1.trans (x4.trans x5), hg, S1.ext (x4.trans x5), hp, hu64⟩, hk1.trans (x4.trans x5).kept⟩
    rw [i64_and255]; omega

set_option maxHeartbeats 400000 in
theorem spec_l1Below (w0 w : World) (g : Nat) (n : Int) (hn : 1 ≤ n ∧ n ≤ 256) (hc : Cur w0 w g) :
    Calls Tryz.prog 35 #[.pointer (some ⟨g, 0, none⟩), .int .i64 n] w fun e w2 => ∃ x, e = .returned (.int .i64 x) ∧ (0 ≤ x ∧ x < n) ∧ Cur w0 w2 g ∧ Kept g w w2 := by
  have hz : ¬ n = 0 := by omega
  go_enter Tryz.func35, Tryz.ntmps35
  go_wp2_with fail
  refine (spec_l1Byte w0 w g hc).mono ?_
  rintro e w2 ⟨x, rfl, hx, hc2, hk⟩
  go_wp2
  go_ret
  refine ⟨_, rfl, ?_, hc2, hk⟩
  first | exact ⟨Int.tmod_nonneg _ hx.1, Int.tmod_lt_of_pos _ (by omega)⟩ | exact ⟨Int.emod_nonneg _ (by omega), Int.emod_lt_of_pos _ (by omega)⟩

set_option maxHeartbeats 400000 in
theorem spec_l1Once (w0 w : World) (g : Nat) (n : Int) (hn : 1 ≤ n ∧ n ≤ 256) (hc : Cur w0 w g) :
    Calls Tryz.prog 37 #[.pointer (some ⟨g, 0, none⟩), .int .i64 n] w fun e w2 => ∃ x, e = .returned (.bool x) ∧ Cur w0 w2 g ∧ Kept g w w2 := by
  go_enter Tryz.func37, Tryz.ntmps37
  go_wp2_with fail
  refine (spec_l1Below w0 w g n hn hc).mono ?_
  rintro e w2 ⟨x, rfl, hx, hc2, hk⟩
  go_wp2
  go_ret
  exact ⟨_, rfl, hc2, hk⟩
end Go.Proofs.YtddjefbdekinbaaGreatDoor

namespace Go.Proofs.YtddjefbdekinbaaGreatDoor
open Go.RowKit

theorem ints_own (xs : List Int) (h : ∀ x ∈ xs, I64 x) (W : World) : OwnCells intO W (xs.map (Value.int .i64)) xs [] := by
  induction xs with
  | nil => exact .nil
  | cons x xs ih => exact ⟨[.int .i64 x], _, [], [], rfl, rfl, ⟨⟨rfl, h x (List.mem_cons_self ..)⟩, rfl⟩, ih fun y hy => h y (List.mem_cons_of_mem _ hy)⟩
theorem Sl.ints_some {w : World} {ad : Addr} {n cap : Nat} {xs : List Int} (h : Sl intR w (.slice (some ad) n cap) xs) : (∀ x ∈ xs, I64 x) ∧ ∀ j u, (xs.map (Value.int .i64))[j]? = some u → w.cell? (ad.add j) = some u := by
  refine ⟨fun x hx => ?_, fun j u hj => ?_⟩
  · obtain ⟨i, hi, rfl⟩ := List.getElem_of_mem hx
    obtain ⟨_, _, _, h1, _⟩ := h.int hi
    exact h1
  · rw [List.getElem?_map] at hj
    obtain ⟨x, hx, rfl⟩ := Option.map_eq_some_iff.1 hj
    obtain ⟨hi, hx⟩ := List.getElem?_eq_some_iff.1 hx
    obtain ⟨b, off, e, h1, hc⟩ := h.int hi
    injection e with e
    subst e
    rw [add_eq, hc, hx]
/-- 'append(s, t...)': the ints of t, which may be the caller's -/
theorem wpList_appn {P : Program} {ops : Array Oper} {rest : List Oper} {o : Oper} {a : Act} {w : World} {Q : Exit → Act → World → Prop} {t e : TypeId} (E : ElemT P t e intO.n 8)
    (hgd : o.guard = none) (s x : Operand) (ho : o.op = .call { callee := .builtin .append, args := #[s, x], argTypes := #[t, t] })
    {base : Nat} {v : Value} {xs : List Int} (hb : Bld intO w base e v xs []) (hs : a.eval s = v) {A : Option Addr} {n k : Nat} (hx : a.eval x = .slice A n k) {ys : List Int} (hy : Sl intR w (.slice A n k) ys)
    (hbytes : xs.length + ys.length ≤ 1099511627776) (hbase : base ≤ w.heap.size)
    (h : ∀ v' w', Bld intO w' base e v' (xs ++ ys) [] → (∀ w0 : World, w0.heap.size ≤ base → Ext w0 w → Ext w0 w') → wpList P ops Q rest (a.put o.dst v') w') :
    wpList P ops Q (o :: rest) a w := by
  obtain ⟨ht, i, z, hi, hz, hsize, hby2, hzs⟩ := E
  have hn : n = ys.length := hy.cap_.1
  cases A with
  | none =>
    have h0 : ys = [] := by
      cases ys with
      | nil => rfl
      | cons y ys =>
        obtain ⟨_, _, _, e, _⟩ := hy.at_ (show 0 < (y :: ys).length by simp)
        cases e
    subst h0
    have hn0 : n = 0 := hn
    subst hn0
    obtain ⟨cs, b1, b2⟩ := hb
    refine wpList_plain hgd fun K hK => ?_
    have hr : (Builtin.append_ #[t, t] o.type #[v, .slice none 0 k]).run P w = .ok v w := by
      rcases b1.2 with ⟨rfl, _⟩ | ⟨g, cap, cur, rfl, _, _, hnc, _⟩
      · simp [Builtin.append_, run_underlying ht, sizeOf, typeInfo, hi, Builtin.lenOf, Builtin.firstCells]
      · simp [Builtin.append_, run_underlying ht, sizeOf, typeInfo, hi, Builtin.lenOf, Builtin.firstCells, hnc, storeCells]
    unfold Oper.wp execOp
    simp only [ho, resolve, invoke, builtin, Sem.run_bind, Sem.run_pure, Result.andThen_ok, List.map_toArray, List.map_cons, List.map_nil, hs, hx, hr]
    exact hK _ _ (h v w (by rw [List.append_nil]; exact ⟨cs, b1, b2⟩) fun _ _ hx => hx)
  | some ad =>
    obtain ⟨hI, hc⟩ := hy.ints_some
    have hl := hb.lt
    obtain ⟨cs, b1, b2, b3, b4, b5⟩ := hb
    refine wpList_append_own_at w hgd s x t ho base e i z intO.n 8 ht hi hz hsize hby2 hzs (by decide) v xs.length cs hs b1 ad n k (ys.map (Value.int .i64)) hx (by rw [List.length_map, hn]; exact (Nat.mul_one _).symm) hc (fun u hu => by
      obtain ⟨y, _, rfl⟩ := List.mem_map.1 hu; rfl) (by unfold maxLen; omega) (by omega) hbase ?_
    intro v' w' hown hgr _ hat
    refine h v' w' ⟨cs ++ ys.map (Value.int .i64), by rw [List.length_append, ← hn]; exact hown, ?_, fun _ _ hm => (by cases hm), List.nodup_nil, fun _ hm => by cases hm⟩ fun w0 h0 hx0 => hx0.grown hgr fun g hg => Nat.le_trans h0 (hl.2 g hg).2
    have := OwnCells.append (b2.keep (w2 := w') fun b hb => by cases hb) (ints_own ys hI w')
    simpa using this
end Go.Proofs.YtddjefbdekinbaaGreatDoor

namespace Go.Proofs.YtddjefbdekinbaaGreatDoor
open Go.RowKit

theorem setCell_heap {w w2 : World} (h : w.heap = w2.heap) (p : Addr) (v : Value) : (w.setCell p v).heap = (w2.setCell p v).heap := by
  unfold World.setCell
  simp only [h]
theorem setCells_heap {g : Nat} : ∀ (vs : List Value) (o : Nat) {w w2 : World}, w.heap = w2.heap → (w.setCells g o vs).heap = (w2.setCells g o vs).heap
  | [], _, _, _, h => h
  | v :: vs, o, _, _, h => by rw [World.setCells, World.setCells]; exact setCells_heap vs (o + 1) (setCell_heap h _ v)
theorem run_copy_many {P : Program} (w : World) (dT sT ty elem : TypeId) (sz m b o dLen dCap : Nat) (a : Addr) (sLen sCap : Nat) (cs : List Value)
    (hu : P.underlying dT = some (.slice elem)) (hs : (P.info? elem).map (·.size) = some sz) (hm : m = Nat.min sLen dLen) (hn : cs.length = m * sz)
    (hsrc : ∀ j v, cs[j]? = some v → w.cell? (a.add j) = some v) (hc : ∀ j, j < cs.length → (w.cell? ⟨b, o + j, none⟩).isSome = true) (hf : ∀ j, j < cs.length → w.frozen? ⟨b, o + j, none⟩ = false) (h1 : ∀ v ∈ cs, v.oneCell' = true) :
    (Builtin.copy_ #[dT, sT] ty #[.slice (some ⟨b, o, none⟩) dLen dCap, .slice (some a) sLen sCap]).run P w = .ok (goInt m) (w.setCells b o cs) := by
  have hl := run_loadCells_list (P := P) w a cs hsrc
  have hst := run_storeCells_cells (P := P) b o cs 0 w (by simpa using hc) (by simpa using hf) h1
  cases hq : P.info? elem with
  | none => simp [hq] at hs
  | some i =>
    have hi : i.size = sz := by simpa [hq] using hs
    subst hm
    rw [hn] at hl
    simp [Builtin.copy_, run_underlying hu, Builtin.lenOf, Builtin.firstCells, sizeOf, typeInfo, hq, hi, hl, hst]
theorem wp_copy_runI {P : Program} (w : World) {o : Oper} {a : Act} {K : Act → World → Prop} {Q : Exit → Act → World → Prop} (d s : Operand) (t t' : TypeId)
    (ho : o.op = .call { callee := .builtin .copy, args := #[d, s], argTypes := #[t, t'] }) (v u : Value) (hd : a.eval d = v) (hs : a.eval s = u) {v' : Value} {w' : World}
    (hr : (Builtin.copy_ #[t, t'] o.type #[v, u]).run P w = .ok v' w') (h : K (a.put o.dst v') w') : o.wp P a w K Q := by
  unfold Oper.wp execOp
  simp only [ho, resolve, invoke, builtin, Sem.run_bind, Sem.run_pure, Result.andThen_ok, List.map_toArray, List.map_cons, List.map_nil, hd, hs, hr]
  exact h
theorem wpList_copy_runI {P : Program} (w : World) {ops : Array Oper} {rest : List Oper} {o : Oper} {a : Act} {Q : Exit → Act → World → Prop} (hgd : o.guard = none) (d s : Operand) (t t' : TypeId)
    (ho : o.op = .call { callee := .builtin .copy, args := #[d, s], argTypes := #[t, t'] }) (v u : Value) (hd : a.eval d = v) (hs : a.eval s = u) {v' : Value} {w' : World}
    (hr : (Builtin.copy_ #[t, t'] o.type #[v, u]).run P w = .ok v' w') (h : wpList P ops Q rest (a.put o.dst v') w') : wpList P ops Q (o :: rest) a w :=
  wpList_plain hgd fun _ hK => wp_copy_runI w d s t t' ho v u hd hs hr (hK _ _ h)
theorem step_copy_runI {P : Program} {ops : Array Oper} {o : Oper} {a : Act} {w : World} {K : Act → World → Prop} {Q : Exit → Act → World → Prop} {E : Prop}
    (hg : o.guard = none) (d x : Operand) (dT sT : TypeId) (hop : o.op = Op.call { callee := Callee.builtin Builtin.copy, args := #[d, x], argTypes := #[dT, sT] })
    (v u : Value) (hd : a.eval d = v) (hx : a.eval x = u) {v' : Value} {w' : World} (hr : (Builtin.copy_ #[dT, sT] o.type #[v, u]).run P w = .ok v' w') (hK : K (a.put o.dst v') w') :
    if Region.wanted o (yielded ops a.tmps) = true then Oper.wp P o a w K Q else E := by
  have hw : Region.wanted o (yielded ops a.tmps) = true := by simp [Region.wanted, hg]
  rw [if_pos hw]
  exact wp_copy_runI w d x dT sT hop v u hd hx hr hK
end Go.Proofs.YtddjefbdekinbaaGreatDoor

namespace Go.Proofs.YtddjefbdekinbaaGreatDoor
open Go.RowKit

theorem tab_mem {P : Program} {w : World} {name : String} {k : IntKind} {zs : List Int} {t e : TypeId} {n g : Nat}
    (hg : P.globalNamed name = some g) (hty : (P.globals[g]?).map (·.type) = some t) (ht : P.underlying t = some (.array n e)) (he : P.underlying e = some (.int k)) (hce : P.cellsOf e = 1) (hct : P.cellsOf t = n) :
    ∀ {l : List (String × DataW Unit)} {ps : List MemPlace}, DataW.LaidVars P w l ps → (name, Go.Lib.tabData k zs) ∈ l → Go.Lib.TabIs P w name k zs
  | [], _, _, hm => by cases hm
  | (n2, d2) :: r, ps, h, hm => by
    obtain ⟨g', t', cs, fuel, p, q, hg', ht', hvar, hd, h5, _⟩ := h
    rcases List.mem_cons.1 hm with hm | hm
    · injection hm with e1 e2
      subst e1
      subst e2
      obtain rfl := Option.some.inj (hg.symm.trans hg')
      obtain rfl := Option.some.inj (hty.symm.trans ht')
      unfold Go.Lib.TabIs
      rw [hvar, ← Go.Lib.cells_of_tab ht he hce hct hd]
    · exact tab_mem hg hty ht he hce hct h5 hm
end Go.Proofs.YtddjefbdekinbaaGreatDoor

namespace Go.Proofs.YtddjefbdekinbaaGreatDoor
open Go.RowKit

def cmpO (x y : Record) : Int := firstNZ [cmpI x.source y.source, cmpI x.key y.key]
def cmpR (x y : Record) : Int := firstNZ [cmpO x y, cmpI x.version y.version, cmpSL x.fields y.fields]
theorem firstNZ_cons (a : Int) (l : List Int) : firstNZ (a :: l) = if a = 0 then firstNZ l else a := by
  by_cases h : a = 0
  · rw [firstNZ, if_neg (by simpa using h), if_pos h]
  · rw [firstNZ, if_pos h, if_neg h]
theorem cmpO_zero {x y : Record} : cmpO x y = 0 ↔ x.source = y.source ∧ x.key = y.key := by
  unfold cmpO
  rw [firstNZ_cons, firstNZ_cons, firstNZ]
  rw [← cmpI_zero (a := x.source), ← cmpI_zero (a := x.key)]
  by_cases h1 : cmpI x.source y.source = 0
  · rw [if_pos h1]
    by_cases h2 : cmpI x.key y.key = 0
    · rw [if_pos h2]; exact ⟨fun _ => ⟨h1, h2⟩, fun _ => rfl⟩
    · rw [if_neg h2]; exact ⟨fun e => absurd e h2, fun e => absurd e.2 h2⟩
  · rw [if_neg h1]; exact ⟨fun e => absurd e h1, fun e => absurd e.1 h1⟩
theorem cmpR_zero {x y : Record} : cmpR x y = 0 ↔ x = y := by
  rw [Record.ext_iff4]
  unfold cmpR
  rw [firstNZ_cons, firstNZ_cons, firstNZ_cons, firstNZ]
  rw [← cmpI_zero (a := x.version), ← cmpSL_zero (xs := x.fields)]
  have h := cmpO_zero (x := x) (y := y)
  by_cases h1 : cmpO x y = 0
  · rw [if_pos h1]
    obtain ⟨h2, h3⟩ := h.1 h1
    by_cases h4 : cmpI x.version y.version = 0
    · rw [if_pos h4]
      by_cases h5 : cmpSL x.fields y.fields = 0
      · rw [if_pos h5]; exact ⟨fun _ => ⟨h2, h3, h4, h5⟩, fun _ => rfl⟩
      · rw [if_neg h5]; exact ⟨fun e => absurd e h5, fun e => absurd e.2.2.2 h5⟩
    · rw [if_neg h4]; exact ⟨fun e => absurd e h4, fun e => absurd e.2.2.1 h4⟩
  · rw [if_neg h1]; exact ⟨fun e => absurd e h1, fun e => absurd (h.2 ⟨e.1, e.2.1⟩) h1⟩
theorem firstNZ_bd : ∀ l : List Int, (∀ x ∈ l, I64 x) → I64 (firstNZ l)
  | [], _ => by simp [firstNZ, I64]
  | x :: l, h => by
    rw [firstNZ]; split
    · exact h x (List.mem_cons_self ..)
    · exact firstNZ_bd l fun y hy => h y (List.mem_cons_of_mem _ hy)
theorem cmpO_64 (x y : Record) : I64 (cmpO x y) := firstNZ_bd _ (by simp [cmpI_64])
theorem cmpR_64 (x y : Record) : I64 (cmpR x y) := firstNZ_bd _ (by simp [cmpI_64, cmpO_64, cmpSL_64])

set_option maxHeartbeats 400000 in
set_option maxRecDepth 20000 in
theorem impl_compareOrigins (v u : Value) (x y : Record) (w : World) (h : RecAt w v x) (k : RecAt w u y) :
    Calls Tryz.prog 47 #[v, u] w fun e w2 => e = .returned (.int .i64 (cmpO x y)) ∧ Ext w w2 := by
  obtain ⟨f, rfl, hok, hs⟩ := h
  obtain ⟨g, rfl, hok2, hs2⟩ := k
  go_enter Tryz.func47, Tryz.ntmps47
  go_wp2
  refine wp_region_still_tail 10 (by kernel_rfl) (by kernel_rfl) ?_
  simp only [List.take_succ_cons, List.take_zero, List.drop_succ_cons, List.drop_zero]
  change wpStill _ _ (World.drew _) _ _ _
  repeat (first | still_step | still_call (cmp_Compare _ _ _))
  refine wpStill_nil ?_
  change wpList _ _ _ _ _ (World.drew _)
  go_wp2_with fail
  refine (cmp_Or _ [cmpI x.source y.source, cmpI x.key y.key] _ ?_).mono ?_
  · exact (Sl.new_ints _ [cmpI x.source y.source, cmpI x.key y.key] _ _ _ (by simp) (by simp) (by simp [cmpI_64]) (by simp [maxLen])).mono (Ext.refl _).drew
  rintro e w2 ⟨rfl, rfl⟩
  go_wp2
  go_ret
  exact ⟨ret_int rfl, (by repeat (first | with_reducible exact Ext.refl _ | with_reducible assumption | with_reducible refine Ext.drew ?_ | with_reducible refine Ext.alloc ?_ _ | with_reducible refine Ext.trans ?_ (by with_reducible assumption)))⟩

set_option maxHeartbeats 400000 in
set_option maxRecDepth 20000 in
theorem impl_CompareRecords (v u : Value) (x y : Record) (w : World) (h : RecAt w v x) (k : RecAt w u y) :
    Calls Tryz.prog 31 #[v, u] w fun e w2 => e = .returned (.int .i64 (cmpR x y)) ∧ Ext w w2 := by
  obtain ⟨f, rfl, hok, hs⟩ := h
  obtain ⟨g, rfl, hok2, hs2⟩ := k
  have hS : ∀ W, Ext ((w.alloc (.cells #[.int .i64 x.source, .int .i64 x.key, .int .i64 x.version, f] 34)).alloc (.cells #[.int .i64 y.source, .int .i64 y.key, .int .i64 y.version, g] 34)) W →
      (∀ i, W.cell? ⟨w.heap.size, i, none⟩ = #[.int .i64 x.source, .int .i64 x.key, .int .i64 x.version, f][i]?) ∧ (∀ i, W.cell? ⟨w.heap.size + 1, i, none⟩ = #[.int .i64 y.source, .int .i64 y.key, .int .i64 y.version, g][i]?) :=
    fun W z => ⟨(((Ext.refl _).alloc _).trans z).box.1, z.box1.1⟩
  have HK := hid hS
  clear hS
  go_enter Tryz.func31, Tryz.ntmps31
  go_wp2_with fail
  go_region_held3 (fun w' => (∀ i, w'.cell? ⟨w.heap.size, i, none⟩ = #[.int .i64 x.source, .int .i64 x.key, .int .i64 x.version, f][i]?) ∧ (∀ i, w'.cell? ⟨w.heap.size + 1, i, none⟩ = #[.int .i64 y.source, .int .i64 y.key, .int .i64 y.version, g][i]?))
    (exact HK.out _ (by repeat (first | with_reducible exact Ext.refl _ | with_reducible assumption | with_reducible refine Ext.drew ?_ | with_reducible refine Ext.alloc ?_ _ | with_reducible refine Ext.trans ?_ (by with_reducible assumption))))
    (first | (go_at_call 47; refine (impl_compareOrigins _ _ x y _ ?ha ?hb).mono ?_; (case ha => exact ⟨_, rfl, hok, hs.mono (by repeat (first | with_reducible exact Ext.refl _ | with_reducible assumption | with_reducible refine Ext.drew ?_ | with_reducible refine Ext.alloc ?_ _ | with_reducible refine Ext.trans ?_ (by with_reducible assumption)))⟩); (case hb => exact ⟨_, rfl, hok2, hs2.mono (by repeat (first | with_reducible exact Ext.refl _ | with_reducible assumption | with_reducible refine Ext.drew ?_ | with_reducible refine Ext.alloc ?_ _ | with_reducible refine Ext.trans ?_ (by with_reducible assumption)))⟩); rintro e w5 ⟨rfl, x5⟩) | (go_at_call 48; refine (cmp_Compare _ _ _).mono ?_; rintro e w6 ⟨rfl, rfl⟩) | (go_at_call 49; refine (slices_Compare_s _ _ x.fields y.fields _ ?hc ?hd).mono ?_; (case hc => exact hs.mono (by repeat (first | with_reducible exact Ext.refl _ | with_reducible assumption | with_reducible refine Ext.drew ?_ | with_reducible refine Ext.alloc ?_ _ | with_reducible refine Ext.trans ?_ (by with_reducible assumption)))); (case hd => exact hs2.mono (by repeat (first | with_reducible exact Ext.refl _ | with_reducible assumption | with_reducible refine Ext.drew ?_ | with_reducible refine Ext.alloc ?_ _ | with_reducible refine Ext.trans ?_ (by with_reducible assumption)))); rintro e w7 ⟨rfl, rfl⟩) | (go_at_call 46; refine (cmp_Or _ [cmpO x y, cmpI x.version y.version, cmpSL x.fields y.fields] _ ?he).mono ?_; (case he => exact (Sl.new_ints _ [cmpO x y, cmpI x.version y.version, cmpSL x.fields y.fields] _ _ _ (by simp) (by simp) (by simp [cmpI_64, cmpO_64, cmpSL_64]) (by simp [maxLen]))); rintro e w8 ⟨rfl, rfl⟩))
  go_wp2
  go_ret
  exact ⟨ret_int rfl, (by repeat (first | with_reducible exact Ext.refl _ | with_reducible assumption | with_reducible refine Ext.drew ?_ | with_reducible refine Ext.alloc ?_ _ | with_reducible refine Ext.trans ?_ (by with_reducible assumption)))⟩

/-- what the reference's walk knows at its loop -/
def cmpK (x y : Record) (K : Int) (j : Nat) : Prop := I64 K ∧ (K = 0 → firstNZ [cmpI x.source y.source, cmpI x.key y.key, cmpI x.version y.version] = 0 ∧ x.fields.take j = y.fields.take j) ∧ (K ≠ 0 → cmpR x y = K)
theorem fz_zero {a : Int} {l : List Int} (h : a = 0) : firstNZ (a :: l) = firstNZ l := by rw [firstNZ_cons, if_pos h]
theorem fz_pos {a : Int} {l : List Int} (h : ¬ a = 0) : firstNZ (a :: l) = a := by rw [firstNZ_cons, if_neg h]
theorem fz_one (d : Int) : firstNZ [d] = d := by
  by_cases h : d = 0
  · rw [fz_zero h]; exact h.symm
  · exact fz_pos h
theorem fz_join (a b : Int) (l : List Int) : firstNZ (firstNZ [a, b] :: l) = firstNZ (a :: b :: l) := by
  by_cases ha : a = 0
  · rw [fz_zero ha (l := [b]), fz_zero ha (l := b :: l), fz_one]
  · rw [fz_pos ha (l := [b]), fz_pos ha (l := b :: l), fz_pos ha]
theorem fz_all : ∀ {l : List Int}, firstNZ l = 0 → ∀ x ∈ l, x = 0
  | [], _, x, hx => by cases hx
  | a :: l, h, x, hx => by
    by_cases ha : a = 0
    · rw [fz_zero ha] at h
      rcases List.mem_cons.1 hx with rfl | hx
      · exact ha
      · exact fz_all h x hx
    · rw [fz_pos ha] at h; exact absurd h ha
theorem cmpR_heads (x y : Record) : cmpR x y = firstNZ [cmpI x.source y.source, cmpI x.key y.key, cmpI x.version y.version, cmpSL x.fields y.fields] := by
  unfold cmpR cmpO
  exact fz_join _ _ _
theorem cmpR_tail {x y : Record} (h : firstNZ [cmpI x.source y.source, cmpI x.key y.key, cmpI x.version y.version] = 0) : cmpR x y = cmpSL x.fields y.fields := by
  rw [cmpR_heads]
  have := firstNZ_append [cmpI x.source y.source, cmpI x.key y.key, cmpI x.version y.version] [cmpSL x.fields y.fields] (fz_all h)
  rw [fz_one] at this
  exact this
theorem cmpK_1 {x y : Record} (h : ¬ cmpI x.source y.source = 0) : cmpK x y (cmpI x.source y.source) 0 := ⟨cmpI_64 _ _, fun e => absurd e h, fun _ => by rw [cmpR_heads, firstNZ_cons, if_neg h]⟩
theorem cmpK_2 {x y : Record} (h : cmpI x.source y.source = 0) (h2 : ¬ cmpI x.key y.key = 0) : cmpK x y (cmpI x.key y.key) 0 := ⟨cmpI_64 _ _, fun e => absurd e h2, fun _ => by rw [cmpR_heads, firstNZ_cons, if_pos h, firstNZ_cons, if_neg h2]⟩
theorem cmpK_3 {x y : Record} (h : cmpI x.source y.source = 0) (h2 : cmpI x.key y.key = 0) : cmpK x y (cmpI x.version y.version) 0 := by
  refine ⟨cmpI_64 _ _, fun e => ⟨?_, rfl⟩, fun e => ?_⟩
  · rw [fz_zero h, fz_zero h2, fz_zero e]; rfl
  · rw [cmpR_heads, firstNZ_cons, if_pos h, firstNZ_cons, if_pos h2, firstNZ_cons, if_neg e]

end Go.Proofs.YtddjefbdekinbaaGreatDoor

namespace Go.Proofs.YtddjefbdekinbaaGreatDoor
open Go.RowKit

theorem foldB_up {b : UInt8} (h1 : 65 ≤ b.toNat) (h2 : b.toNat ≤ 90) : ((b.toNat : Int) + 32) = ((foldB b).toNat : Int) := by
  unfold foldB
  rw [if_pos ⟨h1, h2⟩, UInt8.toNat_add]
  have : (32 : UInt8).toNat = 32 := rfl
  rw [this]
  omega
theorem foldB_no {b : UInt8} (h : ¬ (65 ≤ b.toNat ∧ b.toNat ≤ 90)) : foldB b = b := by unfold foldB; rw [if_neg h]
theorem map_take {α : Type} (p : UInt8 → α) (s : ByteArray) (k : Nat) (h : k < s.size) : (s.data.toList.take (k + 1)).map p = (s.data.toList.take k).map p ++ [p s[k]] := by rw [bytes_take s k h, List.map_append]; rfl

set_option maxHeartbeats 400000 in
set_option maxRecDepth 20000 in
theorem spec_FoldCase (s : ByteArray) (w : World) (hs : s.size ≤ 1099511627775) :
    Calls Tryz.prog 28 #[.string s] w fun e w2 => e = .returned (.string ⟨(s.data.toList.map foldB).toArray⟩) ∧ Ext w w2 := by
  have HS := hid hs
  have hs2 : s.size ≤ 9223372036854775807 := by omega
  clear hs
  go_enter Tryz.func28, Tryz.ntmps28
  go_wp2
  go_loopw [3, 4] (fun o i wr => ∃ (k : Nat), k ≤ s.size ∧ i = .int .i64 k ∧ Bld u8O wr w.heap.size 5 o ((s.data.toList.take k).map foldB) [] ∧ Ext w wr) (fun _ i _ => s.size - (intOf i).toNat)
  case atStart => exact ⟨0, Nat.zero_le _, rfl, by simpa using Bld.lit w (Nat.le_refl _) _, (Ext.refl _).alloc _⟩
  case round =>
    obtain ⟨k, hk, rfl, hB, hx⟩ := hrel
    by_cases hlt : k < s.size
    · have hb := s[k].toNat_lt
      have HM := hid (map_take foldB s k hlt)
      have HL := hid (show ((s.data.toList.take k).map foldB).length + 1 ≤ 1099511627776 by have := HS.out; rw [List.length_map, List.length_take]; omega)
      by_cases hc : 65 ≤ s[k].toNat ∧ s[k].toNat ≤ 90
      · have hf := hid (foldB_up hc.1 hc.2)
        go_wp2_with (at_builtin; refine wpList_app1 elemU8 (by decide) rfl _ _ rfl hB rfl wr.heap.size 1 rfl rfl (one_u8 _) (own_u8 _ (foldB s[k]) hf.out) fresh_nil HL.out (by decide) hx.size ?_; intro v9 w9 hB9 hE9)
        go_roundw
        case rel => exact ⟨k + 1, by omega, by go_num, by rw [HM.out]; exact hB9, hE9 _ (Nat.le_refl _) hx⟩
        case measure => simp [intOf]; omega
      · have hf := hid (foldB_no hc)
        rcases Nat.lt_or_ge s[k].toNat 65 with h65 | h65
        all_goals (try have h90 : 90 < s[k].toNat := by omega)
        all_goals
          go_wp2_with (at_builtin; refine wpList_app1 elemU8 (by decide) rfl _ _ rfl hB rfl wr.heap.size 1 rfl rfl (one_u8 _) (own_u8 _ (foldB s[k]) (by rw [hf.out])) fresh_nil HL.out (by decide) hx.size ?_; intro v9 w9 hB9 hE9)
          go_roundw
          case rel => exact ⟨k + 1, by omega, by go_num, by rw [HM.out]; exact hB9, hE9 _ (Nat.le_refl _) hx⟩
          case measure => simp [intOf]; omega
    · rw [List.take_of_length_le (by simp; omega)] at hB
      have hcv := conv_bld hB
      go_wp2
      go_ret
      exact ⟨rfl, hx⟩

/-! ### mapped -/
set_option maxHeartbeats 400000 in
set_option maxRecDepth 20000 in
theorem impl_mapped (s : ByteArray) (p : UInt8 → UInt8) (fn : FuncId) (w : World) (hs : s.size ≤ 1099511627775)
    (hfn : ∀ (args : Array Value) (W : World), Sem.run Tryz.prog (callFunc fn args) W = .ok (.enter fn args) W)
    (hf : ∀ (b : UInt8) (W : World), Calls Tryz.prog fn #[.int .u8 b.toNat] W fun e w2 => e = .returned (.int .u8 (p b).toNat) ∧ W = w2) :
    Calls Tryz.prog 70 #[.string s, .func (.func fn) #[] #[]] w fun e w2 => e = .returned (.string ⟨(s.data.toList.map p).toArray⟩) ∧ Ext w w2 := by
  have HS := hid hs
  have hs2 : s.size ≤ 9223372036854775807 := by omega
  clear hs
  obtain ⟨cap, W0, hcv, hrow, hx0⟩ := conv_str w s
  go_enter Tryz.func70, Tryz.ntmps70
  go_wp2
  go_loopw [6, 7, 12] (fun _ _ i wr => ∃ (k : Nat), k ≤ s.size ∧ i = .int .i64 k ∧ ByteRow wr w.heap.size ((s.data.toList.take k).map p ++ s.data.toList.drop k) ∧ Ext w wr) (fun _ _ i _ => s.size - (intOf i).toNat)
  case atStart => exact ⟨0, Nat.zero_le _, rfl, by simpa using hrow, hx0⟩
  case round =>
    obtain ⟨k, hk, rfl, hR, hx⟩ := hrel
    have hlen : ((s.data.toList.take k).map p ++ s.data.toList.drop k).length = s.size := by
      rw [List.length_append, List.length_map, List.length_take, List.length_drop, Array.length_toList]
      have : s.data.size = s.size := rfl
      omega
    by_cases hlt : k < s.size
    · have hat : ((s.data.toList.take k).map p ++ s.data.toList.drop k)[k]'(by omega) = s[k] := by
        rw [List.getElem_append_right (by simp; omega)]
        simp
        congr 1
        omega
      have hset : ((s.data.toList.take k).map p ++ s.data.toList.drop k).set k (p s[k]) = (s.data.toList.take (k + 1)).map p ++ s.data.toList.drop (k + 1) := by
        rw [map_take p s k hlt, List.set_append_right _ _ (by simp; omega)]
        have e1 : ((s.data.toList.take k).map p).length = k := by simp; omega
        have e2 : s.data.toList.drop k = s[k] :: s.data.toList.drop (k + 1) := by rw [List.drop_eq_getElem_cons (by simpa using hlt)]; rfl
        rw [e1, e2]
        simp
      obtain ⟨c0, q0⟩ := hR k (by omega)
      rw [hat] at c0
      have HST := hid (fun W (e : Ext wr W) => hset ▸ (hR.ext e).store (show k < _ by omega) (p s[k]))
      have HR := hid hR
      have HLN := hid hlen
      clear hset hat hR hlen
      go_wp2_with fail
      refine (hf s[k] _).mono ?_
      rintro e w2 ⟨rfl, rfl⟩
      have hst := hid (HST.out wr (Ext.refl _))
      go_wp2
      go_roundw
      case rel => exact ⟨k + 1, by omega, by go_num, hst.out, hx.setCell (by simp) _⟩
      case measure => simp [intOf]; omega
    · rw [List.take_of_length_le (by simp; omega), List.drop_of_length_le (by simp; omega), List.append_nil] at hR
      have hcv2 := conv_row (cap := cap) (n := s.size) (l := s.data.toList.map p) (by simp) hR
      go_wp2
      go_ret
      exact ⟨rfl, hx⟩

set_option maxHeartbeats 400000 in
theorem impl_FoldCase_1 (b : UInt8) (w : World) :
    Calls Tryz.prog 74 #[.int .u8 b.toNat] w fun e w2 => e = .returned (.int .u8 (foldB b).toNat) ∧ w = w2 := by
  have hb := b.toNat_lt
  by_cases hc : 65 ≤ b.toNat ∧ b.toNat ≤ 90
  · have hf := hid (foldB_up hc.1 hc.2)
    go_enter Tryz.func74, Tryz.ntmps74
    go_wp2
    go_ret
    exact ⟨by rw [← hf.out]; rfl, rfl⟩
  · have hf := hid (foldB_no hc)
    rcases Nat.lt_or_ge b.toNat 65 with h65 | h65
    all_goals (try have h90 : 90 < b.toNat := by omega)
    all_goals
      go_enter Tryz.func74, Tryz.ntmps74
      go_wp2
      go_ret
      exact ⟨by rw [hf.out]; rfl, rfl⟩
set_option maxHeartbeats 400000 in
theorem impl_FoldCase (s : ByteArray) (w : World) (hs : s.size ≤ 1099511627775) :
    Calls Tryz.prog 56 #[.string s] w fun e w2 => e = .returned (.string ⟨(s.data.toList.map foldB).toArray⟩) ∧ Ext w w2 := by
  go_enter Tryz.func56, Tryz.ntmps56
  go_wp2_with fail
  refine (impl_mapped s foldB 74 _ hs (fun _ _ => by kernel_rfl) (fun b W => impl_FoldCase_1 b W)).mono ?_
  rintro e w2 ⟨rfl, x2⟩
  go_wp2
  go_ret
  exact ⟨rfl, x2⟩

/-! ### StripMarks -/
set_option maxHeartbeats 400000 in
theorem spec_l2Word (b : UInt8) (w : World) :
    Calls Tryz.prog 45 #[.int .u8 b.toNat] w fun e w2 => e = .returned (.bool (wordB b)) ∧ w = w2 := by
  go_enter Tryz.func45, Tryz.ntmps45
  go_wp2
  all_goals go_ret
  all_goals refine ⟨ret_bool ?_, rfl⟩
  all_goals (unfold wordB; rw [Bool.eq_iff_iff]; simp; try omega)
set_option maxHeartbeats 400000 in
theorem impl_isSmall (b : UInt8) (w : World) :
    Calls Tryz.prog 85 #[.int .u8 b.toNat] w fun e w2 => e = .returned (.bool (decide (97 ≤ b.toNat ∧ b.toNat ≤ 122))) ∧ w = w2 := by
  go_enter Tryz.func85, Tryz.ntmps85
  go_wp2
  all_goals go_ret
  all_goals refine ⟨ret_bool ?_, rfl⟩
  all_goals (rw [Bool.eq_iff_iff]; simp; try omega)
set_option maxHeartbeats 400000 in
theorem impl_isDigit (b : UInt8) (w : World) :
    Calls Tryz.prog 86 #[.int .u8 b.toNat] w fun e w2 => e = .returned (.bool (decide (48 ≤ b.toNat ∧ b.toNat ≤ 57))) ∧ w = w2 := by
  go_enter Tryz.func86, Tryz.ntmps86
  go_wp2
  all_goals go_ret
  all_goals refine ⟨ret_bool ?_, rfl⟩
  all_goals (rw [Bool.eq_iff_iff]; simp; try omega)
set_option maxHeartbeats 400000 in
theorem impl_isWordByte (b : UInt8) (w : World) :
    Calls Tryz.prog 73 #[.int .u8 b.toNat] w fun e w2 => e = .returned (.bool (wordB b)) ∧ w = w2 := by
  go_enter Tryz.func73, Tryz.ntmps73
  go_wp2_with (first | (go_at_call 85; refine (impl_isSmall _ _).mono ?_; rintro e w2 ⟨rfl, rfl⟩) | (go_at_call 86; refine (impl_isDigit _ _).mono ?_; rintro e w2 ⟨rfl, rfl⟩))
  all_goals go_ret
  all_goals refine ⟨ret_bool ?_, rfl⟩
  all_goals (unfold wordB; rw [Bool.eq_iff_iff]; simp_all; try omega)
set_option maxHeartbeats 400000 in
theorem impl_StripMarks_1 (b : UInt8) (w : World) :
    Calls Tryz.prog 72 #[.int .u8 b.toNat] w fun e w2 => e = .returned (.int .u8 (markB b).toNat) ∧ w = w2 := by
  go_enter Tryz.func72, Tryz.ntmps72
  go_wp2_with fail
  refine (impl_isWordByte _ _).mono ?_
  rintro e w2 ⟨rfl, rfl⟩
  cases h : wordB b with
  | true =>
    have hm := hid (show markB b = b by unfold markB; rw [if_pos h])
    go_wp2
    go_ret
    exact ⟨by rw [hm.out]; rfl, rfl⟩
  | false =>
    have hm := hid (show markB b = 32 by unfold markB; rw [if_neg (by simp [h])])
    go_wp2
    go_ret
    exact ⟨by rw [hm.out]; rfl, rfl⟩
theorem xRepl : Builder.Extra Tryz.prog lShRepl_ren :=
  { sizeBuilder := by kernel_rfl, liesBuilder := by kernel_rfl, t5 := Tryz.underlying5, a5 := Tryz.isAgg5, z5 := Tryz.sizeOf5, v5 := Tryz.zeroValue5, infoByte := by kernel_rfl, cellsByte := by kernel_rfl, sizeByte := by kernel_rfl, neB5 := by decide }
theorem countB_bound (s : ByteArray) : Go.Lib.countB s ⟨#[39]⟩ * (⟨#[]⟩ : ByteArray).size = 0 := Nat.mul_zero _
theorem strings_ReplaceAll_c (s : ByteArray) (w : World) (hs : s.size < 4294967281) (M : ML w) :
    Calls Tryz.prog 71 #[.string s, .string ⟨#[39]⟩, .string ⟨#[]⟩] w fun e w2 => e = .returned (.string ⟨(s.data.toList.filter fun b => !(b == 39)).toArray⟩) ∧ Ext w w2 := by
  obtain ⟨m, hm⟩ := M
  refine (Any.strings_ReplaceAll lShRepl xRepl s ⟨#[39]⟩ ⟨#[]⟩ m w hs hm (Nat.le_refl 1) (by rw [countB_bound]; omega)).mono fun e w2 ⟨he, hx⟩ => ⟨?_, hx⟩
  rw [he]
  congr 2
  exact congrArg (fun l : List UInt8 => (⟨l.toArray⟩ : ByteArray)) (replaceAll_one s.data.toList 39)
theorem filter_size (s : ByteArray) (p : UInt8 → Bool) : (⟨(s.data.toList.filter p).toArray⟩ : ByteArray).size ≤ s.size := by
  have := List.length_filter_le p s.data.toList
  rw [Array.length_toList] at this
  simpa [ByteArray.size_mk'] using this
set_option maxHeartbeats 400000 in
theorem impl_StripMarks (s : ByteArray) (w : World) (hs : s.size ≤ 1073741824) (M : ML w) :
    Calls Tryz.prog 55 #[.string s] w fun e w2 => e = .returned (.string ⟨(stripL s.data.toList).toArray⟩) ∧ Ext w w2 := by
  have hz := filter_size s fun b => !(b == 39)
  go_enter Tryz.func55, Tryz.ntmps55
  go_wp2_with fail
  refine (strings_ReplaceAll_c s _ (by omega) M).mono ?_
  rintro e w2 ⟨rfl, x2⟩
  go_wp2_with fail
  refine (impl_mapped _ markB 72 _ (by omega) (fun _ _ => by kernel_rfl) (fun b W => impl_StripMarks_1 b W)).mono ?_
  rintro e w3 ⟨rfl, x3⟩
  go_wp2
  go_ret
  exact ⟨rfl, x2.trans x3⟩

theorem strip_step (s : ByteArray) (k : Nat) (h : k < s.size) : stripL (s.data.toList.take (k + 1)) = stripL (s.data.toList.take k) ++ (if s[k] = 39 then [] else [markB s[k]]) := by
  rw [bytes_take s k h]
  unfold stripL
  rw [List.filter_append, List.map_append]
  by_cases h : s[k] = 39 <;> simp [h]
theorem strip_len (l : List UInt8) : (stripL l).length ≤ l.length := by
  unfold stripL
  rw [List.length_map]
  exact List.length_filter_le _ _
theorem u8_eq {b c : UInt8} : b = c ↔ b.toNat = c.toNat := ⟨fun h => by rw [h], fun h => UInt8.toNat_inj.1 h⟩

set_option maxHeartbeats 400000 in
set_option maxRecDepth 20000 in
theorem spec_StripMarks (s : ByteArray) (w : World) (hs : s.size ≤ 1099511627775) :
    Calls Tryz.prog 27 #[.string s] w fun e w2 => e = .returned (.string ⟨(stripL s.data.toList).toArray⟩) ∧ Ext w w2 := by
  have HS := hid hs
  have hs2 : s.size ≤ 9223372036854775807 := by omega
  clear hs
  go_enter Tryz.func27, Tryz.ntmps27
  go_wp2
  go_loopw [3, 4] (fun o i wr => ∃ (k : Nat), k ≤ s.size ∧ i = .int .i64 k ∧ Bld u8O wr w.heap.size 5 o (stripL (s.data.toList.take k)) [] ∧ Ext w wr) (fun _ i _ => s.size - (intOf i).toNat)
  case atStart => exact ⟨0, Nat.zero_le _, rfl, by simpa [stripL] using Bld.lit w (Nat.le_refl _) _, (Ext.refl _).alloc _⟩
  case round =>
    obtain ⟨k, hk, rfl, hB, hx⟩ := hrel
    by_cases hlt : k < s.size
    · have hb := s[k].toNat_lt
      have HM := hid (strip_step s k hlt)
      have HL := hid (show (stripL (s.data.toList.take k)).length + 1 ≤ 1099511627776 by have := HS.out; have := strip_len (s.data.toList.take k); rw [List.length_take] at this; omega)
      go_wp2_with fail
      refine (spec_l2Word _ _).mono ?_
      rintro e w2 ⟨rfl, rfl⟩
      cases hw : wordB s[k] with
      | true =>
        have h39 : ¬ s[k] = 39 := fun e => by rw [e] at hw; revert hw; decide
        have hm := hid (show (if s[k] = 39 then [] else [markB s[k]]) = [s[k]] by rw [if_neg h39]; unfold markB; rw [if_pos hw])
        clear hw h39
        go_wp2_with (at_builtin; refine wpList_app1 elemU8 (by decide) rfl _ _ rfl hB rfl wr.heap.size 1 rfl rfl (one_u8 _) (own_u8 _ s[k] rfl) fresh_nil HL.out (by decide) hx.size ?_; intro v9 w9 hB9 hE9)
        go_roundw
        case rel => exact ⟨k + 1, by omega, by go_num, by rw [HM.out, hm.out]; exact hB9, hE9 _ (Nat.le_refl _) hx⟩
        case measure => simp [intOf]; omega
      | false =>
        by_cases h32 : s[k].toNat = 32
        · have h39 : ¬ s[k] = 39 := fun e => by rw [e] at h32; revert h32; decide
          have he : s[k] = 32 := u8_eq.2 h32
          have hm := hid (show (if s[k] = 39 then [] else [markB s[k]]) = [s[k]] by rw [if_neg h39]; unfold markB; rw [if_neg (by simp [hw]), he])
          clear hw h39 he
          go_wp2_with (at_builtin; refine wpList_app1 elemU8 (by decide) rfl _ _ rfl hB rfl wr.heap.size 1 rfl rfl (one_u8 _) (own_u8 _ s[k] (by first | rfl | (rw [h32]; rfl))) fresh_nil HL.out (by decide) hx.size ?_; intro v9 w9 hB9 hE9)
          go_roundw
          case rel => exact ⟨k + 1, by omega, by go_num, by rw [HM.out, hm.out]; exact hB9, hE9 _ (Nat.le_refl _) hx⟩
          case measure => simp [intOf]; omega
        · by_cases h39 : s[k].toNat = 39
          · have he : s[k] = 39 := u8_eq.2 h39
            have hm := hid (show (if s[k] = 39 then [] else [markB s[k]]) = [] by rw [if_pos he])
            clear hw he
            go_wp2
            go_roundw
            case rel => exact ⟨k + 1, by omega, by go_num, by rw [HM.out, hm.out, List.append_nil]; exact hB, hx⟩
            case measure => simp [intOf]; omega
          · have he : ¬ s[k] = 39 := fun e => h39 (by rw [e]; rfl)
            have hm := hid (show (if s[k] = 39 then [] else [markB s[k]]) = [32] by rw [if_neg he]; unfold markB; rw [if_neg (by simp [hw])])
            clear hw he
            go_wp2_with (at_builtin; refine wpList_app1 elemU8 (by decide) rfl _ _ rfl hB rfl wr.heap.size 1 rfl rfl (one_u8 _) (own_u8 _ 32 rfl) fresh_nil HL.out (by decide) hx.size ?_; intro v9 w9 hB9 hE9)
            go_roundw
            case rel => exact ⟨k + 1, by omega, by go_num, by rw [HM.out, hm.out]; exact hB9, hE9 _ (Nat.le_refl _) hx⟩
            case measure => simp [intOf]; omega
    · rw [List.take_of_length_le (by simp; omega)] at hB
      have hcv := conv_bld hB
      go_wp2
      go_ret
      exact ⟨rfl, hx⟩

/-! ### CollapseSpaces -/
theorem strings_TrimSuffix_c (l : List UInt8) (w : World) (hs : l.length ≤ 9223372036854775807) :
    Calls Tryz.prog 69 #[.string ⟨l.toArray⟩, .string ⟨#[32]⟩] w fun e w2 => e = .returned (.string ⟨(Go.Lib.trimSuffix l [32]).toArray⟩) ∧ w = w2 :=
  (Any.strings_TrimSuffix lShTrimS ⟨l.toArray⟩ ⟨#[32]⟩ w (by simpa [ByteArray.size_mk'] using hs)).mono fun _ _ ⟨he, hw⟩ => ⟨by rw [he], hw.symm⟩

set_option maxHeartbeats 400000 in
set_option maxRecDepth 20000 in
theorem impl_CollapseSpaces (s : ByteArray) (w : World) (hs : s.size ≤ 1099511627775) :
    Calls Tryz.prog 54 #[.string s] w fun e w2 => e = .returned (.string ⟨(colP s.data.toList).1.toArray⟩) ∧ Ext w w2 := by
  have HS := hid hs
  have hs2 : s.size ≤ 9223372036854775807 := by omega
  clear hs
  go_enter Tryz.func54, Tryz.ntmps54
  go_wp2
  go_loopw [3, 4, 7] (fun o _ i wr => ∃ (k : Nat), k ≤ s.size ∧ i = .int .i64 k ∧ Bld u8O wr w.heap.size 5 o (colI (s.data.toList.take k)) [] ∧ Ext w wr) (fun _ _ i _ => s.size - (intOf i).toNat)
  case atStart => exact ⟨0, Nat.zero_le _, rfl, by simpa [colI, colP] using Bld.nil w w.heap.size _, Ext.refl _⟩
  case round =>
    obtain ⟨k, hk, rfl, hB, hx⟩ := hrel
    by_cases hlt : k < s.size
    · have hb := s[k].toNat_lt
      have HT := hid (bytes_take s k hlt)
      have HL := hid (show (colI (s.data.toList.take k)).length + 1 ≤ 1099511627776 by have := HS.out; have := colI_len (s.data.toList.take k); rw [List.length_take] at this; omega)
      generalize hL : colI (s.data.toList.take k) = L at hB HL
      have HLL := hid hL
      clear hL
      obtain ⟨A, cap, rfl⟩ := hB.form
      by_cases h32 : s[k].toNat = 32
      · have he := hid (show s[k] = 32 from u8_eq.2 h32)
        by_cases h0 : L.length = 0
        · have hn := hid (show colI (s.data.toList.take k ++ [32]) = L by rw [← HLL.out]; exact colI_skip (.inl (by rw [HLL.out]; exact List.eq_nil_of_length_eq_zero h0)))
          go_wp2
          go_roundw
          case rel => exact ⟨k + 1, by omega, by go_num, by rw [HT.out, he.out, hn.out]; exact hB, hx⟩
          case measure => simp [intOf]; omega
        · obtain ⟨g, rfl, hc⟩ := hB.u8_at (show L.length - 1 < L.length by omega)
          have hlast : L.getLast? = some L[L.length - 1] := by rw [List.getLast?_eq_getElem?, List.getElem?_eq_getElem]
          generalize hq : L[L.length - 1] = q at hc hlast
          clear hq
          obtain ⟨n, hn1⟩ : ∃ n, L.length = n + 1 := ⟨L.length - 1, by omega⟩
          have hn9 : L.length - 1 = n := by omega
          rw [hn9] at hc
          have HB := hid hB
          have hqb := q.toNat_lt
          have hnb : n ≤ 1099511627775 := by have := HL.out; omega
          clear h0 hB hn9
          by_cases hq32 : q.toNat = 32
          · have hn := hid (show colI (s.data.toList.take k ++ [32]) = L by rw [← HLL.out]; exact colI_skip (.inr (by rw [HLL.out, hlast, u8_eq.2 (show q.toNat = (32 : UInt8).toNat from hq32)])))
            clear hlast
            go_wp2
            go_roundw
            case rel => exact ⟨k + 1, by omega, by go_num, by rw [HT.out, he.out, hn.out]; first | exact HB.out | (rw [hn1] at HB; exact HB.out), hx⟩
            case measure => simp [intOf]; omega
          · have hn := hid (show colI (s.data.toList.take k ++ [32]) = L ++ [32] by
              rw [← HLL.out]
              refine colI_space (fun h9 => ?_) (fun h9 => ?_)
              · rw [HLL.out] at h9
                rw [h9] at hn1
                simp at hn1
              · rw [HLL.out, hlast] at h9
                injection h9 with h9
                exact hq32 (by rw [h9]; rfl))
            clear hlast
            go_wp2_with (at_builtin; refine wpList_app1 elemU8 (by decide) rfl _ _ rfl (by first | exact HB.out | (rw [hn1] at HB; exact HB.out)) rfl wr.heap.size 1 rfl rfl (one_u8 _) (own_u8 _ 32 (by first | rfl | (rw [h32]; rfl))) fresh_nil HL.out (by decide) hx.size ?_; intro v9 w9 hB9 hE9)
            go_roundw
            case rel => exact ⟨k + 1, by omega, by go_num, by rw [HT.out, he.out, hn.out]; exact hB9, hE9 _ (Nat.le_refl _) hx⟩
            case measure => simp [intOf]; omega
      · have hn := hid (show colI (s.data.toList.take k ++ [s[k]]) = L ++ [s[k]] by rw [← HLL.out]; exact colI_word (fun e => h32 (by rw [e]; rfl)))
        go_wp2_with (at_builtin; refine wpList_app1 elemU8 (by decide) rfl _ _ rfl hB rfl wr.heap.size 1 rfl rfl (one_u8 _) (own_u8 _ s[k] rfl) fresh_nil HL.out (by decide) hx.size ?_; intro v9 w9 hB9 hE9)
        go_roundw
        case rel => exact ⟨k + 1, by omega, by go_num, by rw [HT.out, hn.out]; exact hB9, hE9 _ (Nat.le_refl _) hx⟩
        case measure => simp [intOf]; omega
    · rw [List.take_of_length_le (by simp; omega)] at hB
      have hcv := conv_bld hB
      have hl := colI_len s.data.toList
      have hl2 : s.data.toList.length = s.size := Array.length_toList
      have HTR := hid (colI_trim s.data.toList)
      have HL2 := hid (show (colI s.data.toList).length ≤ 9223372036854775807 by omega)
      clear hl hl2
      go_wp2_with fail
      refine (strings_TrimSuffix_c _ _ HL2.out).mono ?_
      rintro e w2 ⟨rfl, rfl⟩
      rw [HTR.out]
      go_wp2
      go_ret
      exact ⟨rfl, hx⟩
end Go.Proofs.YtddjefbdekinbaaGreatDoor

namespace Go.Proofs.YtddjefbdekinbaaGreatDoor
open Go.RowKit

theorem Cur.base {w0 w : World} {g : Nat} (h : Cur w0 w g) : Ext w0 w ∧ w0.heap.size ≤ g ∧ g < w.heap.size := by
  obtain ⟨A, cap, bs, p, hh, h1, h2, h3, h4, h5⟩ := h
  exact ⟨h2, h3, block_lt h4⟩
theorem Bld.kept {α : Type} {R : RepO α} {w w2 : World} {base g : Nat} {e : TypeId} {v : Value} {xs : List α} {F : List Nat} (h : Bld R w base e v xs F) (hg : g < base) (k : Kept g w w2) : Bld R w2 base e v xs F :=
  h.keep fun b hb hl => k.2 b hl (by omega)
theorem OwnSl.kept {α : Type} {R : RepO α} {w w2 : World} {g : Nat} {v : Value} {xs : List α} {F : List Nat} (h : OwnSl R w v xs F) (hg : g ∉ F) (k : Kept g w w2) : OwnSl R w2 v xs F :=
  h.keep fun b hb => k.2 b (h.lt b hb) (fun e => hg (e ▸ hb))
/-- an append; what it leaves, block by block -/
theorem wpList_app1g {P : Program} {α : Type} {R : RepO α} {ops : Array Oper} {rest : List Oper} {o : Oper} {a : Act} {W : World} {Q : Exit → Act → World → Prop} {t e : TypeId} {bytes : Nat} (E : ElemT P t e R.n bytes) (hsz : 0 < R.n)
    (hgd : o.guard = none) (s x : Operand) (ho : o.op = .call { callee := .builtin .append, args := #[s, x], argTypes := #[t, t] })
    {base : Nat} {v : Value} {xs : List α} {F : List Nat} (hb : Bld R W base e v xs F) (hs : a.eval s = v) {c : Array Value} {T : TypeId} (g k : Nat) (hx : a.eval x = .slice (some ⟨g, 0, none⟩) 1 k) (hg : g = W.heap.size)
    (h1 : ∀ u ∈ c.toList, u.oneCell' = true) {y : α} {G : List Nat} (hy : R.own W c.toList y G) (hG : (∀ b ∈ G, b ∉ F ∧ v.ownBlock ≠ some b) ∧ G.Nodup ∧ ∀ b ∈ G, base ≤ b)
    (hbytes : xs.length + 1 ≤ 1099511627776) (hby : bytes ≤ 128) (hbase : base ≤ W.heap.size)
    (h : ∀ v' w', Bld R w' base e v' (xs ++ [y]) (F ++ G) → (∀ w0 : World, w0.heap.size ≤ base → Ext w0 W → Ext w0 w') → W.heap.size ≤ w'.heap.size → (∀ b, b < base → w'.heap[b]? = W.heap[b]?) → wpList P ops Q rest (a.put o.dst v') w') :
    wpList P ops Q (o :: rest) a (W.alloc (.cells c T)) := by
  obtain ⟨ht, i, z, hi, hz, hsize, hby2, hzs⟩ := E
  have x1 : Ext W (W.alloc (.cells c T)) := (Ext.refl W).alloc _
  have hb1 := hb.ext x1
  have hl := hb1.lt
  obtain ⟨cs, b1, b2, b3, b4, b5⟩ := hb1
  have hy1 : R.own (W.alloc (.cells c T)) c.toList y G := R.own_keep (fun b hb => x1.block (R.own_lt hy b hb)) hy
  refine wpList_append_own_at (W.alloc (.cells c T)) hgd s x t ho base e i z R.n bytes ht hi hz hsize hby2 hzs hsz v xs.length cs hs b1 ⟨g, 0, none⟩ 1 k c.toList hx (by rw [R.len (R.own_rd hy), Nat.one_mul]) (fun j u hj => ?_) h1
    (by unfold maxLen; omega) (Nat.le_trans (Nat.mul_le_mul hbytes hby) (by decide)) (Nat.le_trans hbase x1.size) ?_
  · subst hg
    have : (W.alloc (.cells c T)).cell? ⟨W.heap.size, j, none⟩ = c[j]? := ((Ext.refl (W.alloc (.cells c T))).box).1 j
    rw [add_eq, Nat.zero_add, this]
    simpa using hj
  · intro v' w' hown hgr _ hat
    obtain ⟨h5, h6⟩ := bld_grown hl b2 b3 b4 b5 hy1 hG hown hgr hat
    refine h _ _ h5 (fun w0 h7 h8 => h6 w0 h7 (h8.trans x1)) (Nat.le_trans x1.size hgr.size) fun b hb => ?_
    have hbW : b < W.heap.size := by omega
    rw [hgr.block b (Nat.lt_of_lt_of_le hbW x1.size) (fun e => by have := (hl.2 b e.symm).2; omega), x1.block hbW]

set_option maxHeartbeats 400000 in
theorem spec_l1PickInt (w0 w : World) (g : Nat) (v : Value) (xs : List Int) (hl : 1 ≤ xs.length ∧ xs.length ≤ 256) (hc : Cur w0 w g) (hs : ∀ w2, Kept g w w2 → Sl intR w2 v xs) :
    Calls Tryz.prog 39 #[.pointer (some ⟨g, 0, none⟩), v] w fun e w2 => ∃ x, e = .returned (.int .i64 x) ∧ I64 x ∧ Cur w0 w2 g ∧ Kept g w w2 := by
  obtain ⟨A, cap, rfl, hm⟩ := (hs w (Kept.refl _ _)).form
  go_enter Tryz.func39, Tryz.ntmps39
  go_wp2_with fail
  refine (spec_l1Below w0 w g xs.length (by omega) hc).mono ?_
  rintro e w2 ⟨x, rfl, hx, hc2, hk⟩
  obtain ⟨j, rfl⟩ : ∃ j : Nat, x = j := ⟨x.toNat, by omega⟩
  have hj : j < xs.length := by omega
  obtain ⟨b, off, rfl, hI, hcell⟩ := (hs w2 hk).int hj
  go_wp2
  go_ret
  exact ⟨_, rfl, hI, hc2, hk⟩

set_option maxHeartbeats 400000 in
set_option maxRecDepth 20000 in
theorem spec_l1New (w : World) (v : Value) (bs : List Int) (h : Sl u8R w v bs) :
    Calls Tryz.prog 15 #[v] w fun e w2 => e = .returned (.pointer (some ⟨w.heap.size, 0, none⟩)) ∧ Cur w w2 w.heap.size ∧ Ext w w2 := by
  obtain ⟨A, cap, rfl, hm⟩ := h.form
  go_enter Tryz.func15, Tryz.ntmps15
  go_wp2
  go_loop [3, 4] (fun x i => ∃ (k : Nat) (u : Int), k ≤ bs.length ∧ i = .int .i64 k ∧ x = .int .i64 u ∧ I64 u) (fun _ i => bs.length - (intOf i).toNat)
  case atStart => exact ⟨0, _, Nat.zero_le _, rfl, rfl, by unfold I64; first | omega | (unfold wrap64; omega)⟩
  case round =>
    obtain ⟨k, u, hk, rfl, rfl, hu⟩ := hrel
    have hu' := hu.out
    by_cases hlt : k < bs.length
    · by_cases h4 : k < 4000
      · obtain ⟨b, off, rfl, hbd, hcb⟩ := h.u8 hlt
        go_wp2
        go_round
        case rel => exact ⟨k + 1, _, by omega, by go_num, rfl, by rw [i64_and30]; unfold I64; omega⟩
        case measure => simp [intOf]; omega
      · go_wp2
        go_ret
        exact ⟨rfl, ⟨A, cap, bs, 0, u, h, (Ext.refl _).alloc _, Nat.le_refl _, Blk.new w _ _, Nat.zero_le _, hu⟩, (Ext.refl _).alloc _⟩
    · go_wp2
      go_ret
      exact ⟨rfl, ⟨A, cap, bs, 0, u, h, (Ext.refl _).alloc _, Nat.le_refl _, Blk.new w _ _, Nat.zero_le _, hu⟩, (Ext.refl _).alloc _⟩

theorem lit_kept {w w2 : World} {g : Nat} {T : TypeId} {xs : List Int} {cs : Array Value} (hcs : cs.toList = xs.map (Value.int .i64)) (h : ∀ x ∈ xs, I64 x) (hl : xs.length ≤ maxLen) (hg : g < w.heap.size) (k : Kept g (w.alloc (.cells cs T)) w2) :
    OwnSl intO w2 (.slice (some ⟨w.heap.size, 0, none⟩) xs.length xs.length) xs [w.heap.size] := by
  have hb := Blk.new w T cs
  rw [hcs] at hb
  exact (OwnSl.of_blk hb hl (ints_cells _ _ h)).kept (by simp; omega) k

end Go.Proofs.YtddjefbdekinbaaGreatDoor

namespace Go.Proofs.YtddjefbdekinbaaGreatDoor
open Go.RowKit

/-- the digits of a number, ahead of a text -/
def mtL : Nat → Nat → ByteArray → ByteArray
  | 0, _, s => s
  | f + 1, j, s => if j = 0 then s else mtL f (j / 10) (⟨#[UInt8.ofNat (48 + (j : Int) % 10).toNat]⟩ ++ s)
def mkT (k : Int) : ByteArray := if k ≤ 0 then ⟨#[109, 48]⟩ else ⟨#[109]⟩ ++ mtL k.toNat k.toNat ⟨#[]⟩
theorem mtL_zero (f : Nat) (s : ByteArray) : mtL f 0 s = s := by cases f <;> rfl
theorem mtL_step {f j : Nat} {s : ByteArray} (hj : 0 < j) (hf : j ≤ f) : ∃ f2, j / 10 ≤ f2 ∧ mtL f j s = mtL f2 (j / 10) (⟨#[UInt8.ofNat (48 + (j : Int) % 10).toNat]⟩ ++ s) := by
  cases f with
  | zero => omega
  | succ f =>
    refine ⟨f, by omega, ?_⟩
    rw [mtL, if_neg (by omega)]
theorem mkT_pos {k : Int} (h : ¬ k ≤ 0) : mkT k = ⟨#[109]⟩ ++ mtL k.toNat k.toNat ⟨#[]⟩ := by unfold mkT; rw [if_neg h]
theorem mkT_no {k : Int} (h : k ≤ 0) : mkT k = ⟨#[109, 48]⟩ := by unfold mkT; rw [if_pos h]

theorem OwnSl.str_store {w : World} {v : Value} {xs : List ByteArray} {F : List Nat} (h : OwnSl strO w v xs F) (hN : F.Nodup) {i : Nat} (hi : i < xs.length) : ∃ g off cap, v = .slice (some ⟨g, off, none⟩) xs.length cap ∧ g ∈ F ∧
    w.cell? ⟨g, off + i, none⟩ = some (.string xs[i]) ∧ w.frozen? ⟨g, off + i, none⟩ = false ∧ ∀ x : ByteArray, x.size ≤ maxLen → OwnSl strO (w.setCell ⟨g, off + i, none⟩ (.string x)) v (xs.set i x) F := by
  obtain ⟨g, off, cap, c, F1, rfl, hg, _, _, _, ⟨⟨rfl, _⟩, rfl⟩, _, hc, hf, _, hst⟩ := h.elem hN hi
  have h1 : strO.n = 1 := rfl
  refine ⟨g, off, cap, rfl, hg, ?_, hf _, fun x hx => ?_⟩
  · simpa [h1] using hc 0 (by omega)
  · have := hst 0 (.string x) x (by omega) ⟨⟨rfl, hx⟩, rfl⟩
    simpa [h1] using this

/-- the marks of k, of k + 1 and so on -/
def MkS (k : Int) (ys : List ByteArray) : Prop := ∀ i, i < ys.length → ys[i]? = some (mkT (k + i))

def recSum (xs : List Record) : Nat := (xs.map fun r => 3 + r.fields.length).sum
theorem recSum_step (xs : List Record) (i : Nat) (h : i < xs.length) : recSum (xs.take (i + 1)) = recSum (xs.take i) + (3 + xs[i].fields.length) := by
  rw [List.take_succ_eq_append_getElem h]; unfold recSum; rw [List.map_append, List.sum_append]; simp
theorem recSum_le (xs : List Record) (i : Nat) : recSum (xs.take i) ≤ recSum xs := by
  have h := List.take_append_drop i xs
  have : recSum xs = recSum (xs.take i) + recSum (xs.drop i) := by
    unfold recSum; rw [← List.sum_append, ← List.map_append, h]
  omega
theorem recSum_ms (xs : List Record) : recSum xs ≤ 3 * (xs.length + sumBy msRec xs) := by
  unfold recSum sumBy
  induction xs with
  | nil => simp
  | cons x xs ih =>
    simp only [List.map_cons, List.sum_cons, List.length_cons] at ih ⊢
    have : x.fields.length ≤ msRec x := by unfold msRec; omega
    omega

theorem OwnSl.rec_at {w : World} {v : Value} {xs : List Record} {F : List Nat} (h : OwnSl recordO w v xs F) (hN : F.Nodup) {i : Nat} (hi : i < xs.length) : ∃ g off cap m F1, v = .slice (some ⟨g, off, none⟩) xs.length cap ∧ g ∈ F ∧ (∀ o, w.frozen? ⟨g, o, none⟩ = false) ∧
    (w.cell? ⟨g, off + i * 4, none⟩ = some (.int .i64 xs[i].source) ∧ w.cell? ⟨g, off + i * 4 + 1, none⟩ = some (.int .i64 xs[i].key) ∧ w.cell? ⟨g, off + i * 4 + 2, none⟩ = some (.int .i64 xs[i].version) ∧ w.cell? ⟨g, off + i * 4 + 3, none⟩ = some m) ∧
    (∀ u, I64 u → OwnSl recordO (w.setCell ⟨g, off + i * 4, none⟩ (.int .i64 u)) v (xs.set i ⟨u, xs[i].key, xs[i].version, xs[i].fields⟩) F) ∧
    (∀ u, I64 u → OwnSl recordO (w.setCell ⟨g, off + i * 4 + 1, none⟩ (.int .i64 u)) v (xs.set i ⟨xs[i].source, u, xs[i].version, xs[i].fields⟩) F) ∧
    (∀ u, I64 u → OwnSl recordO (w.setCell ⟨g, off + i * 4 + 2, none⟩ (.int .i64 u)) v (xs.set i ⟨xs[i].source, xs[i].key, u, xs[i].fields⟩) F) ∧
    (∀ b ∈ F1, b ∈ F) ∧ F1.Nodup ∧ OwnSl strO w m xs[i].fields F1 ∧
    ∀ w2 zs, (∀ b ∈ F, b ∉ F1 → w2.heap[b]? = w.heap[b]?) → OwnSl strO w2 m zs F1 → OwnSl recordO w2 v (xs.set i ⟨xs[i].source, xs[i].key, xs[i].version, zs⟩) F := by
  obtain ⟨g, off, cap, c, F1, rfl, hg, hsub, hng, hN1, ⟨m, rfl, hI, hm⟩, _, hc, hf, hin, hst⟩ := h.elem hN hi
  have h1 : recordO.n = 4 := rfl
  rw [h1] at hc hst
  have hmk : ∀ o u, OwnSl strO (w.setCell ⟨g, o, none⟩ u) m xs[i].fields F1 := fun o u => hm.keep fun b hb => keep_setCell fun e => hng (by have e2 : b = g := e; exact e2 ▸ hb)
  refine ⟨g, off, cap, m, F1, rfl, hg, hf, ⟨by (have := hc 0 (by omega)); rw [Nat.add_zero] at this; exact this, hc 1 (by omega), hc 2 (by omega), hc 3 (by omega)⟩, fun u hu => ?_, fun u hu => ?_, fun u hu => ?_, hsub, hN1, hm, fun w2 zs hk hz => ?_⟩
  · have := hst 0 (.int .i64 u) ⟨u, xs[i].key, xs[i].version, xs[i].fields⟩ (by omega) ⟨m, rfl, ⟨hu, hI.2⟩, hmk _ _⟩
    simpa using this
  · exact hst 1 (.int .i64 u) ⟨xs[i].source, u, xs[i].version, xs[i].fields⟩ (by omega) ⟨m, rfl, ⟨hI.1, hu, hI.2.2⟩, hmk _ _⟩
  · exact hst 2 (.int .i64 u) ⟨xs[i].source, xs[i].key, u, xs[i].fields⟩ (by omega) ⟨m, rfl, ⟨hI.1, hI.2.1, hu⟩, hmk _ _⟩
  · exact hin w2 ⟨xs[i].source, xs[i].key, xs[i].version, zs⟩ hk ⟨m, rfl, hI, hz⟩

theorem rec_three {W : World} {v : Value} {ys : List Record} {F : List Nat} {j : Nat} {K : Int} (ho : OwnSl recordO W v ys F) (hN : F.Nodup) (hjy : j < ys.length) (hK0 : 0 ≤ K) (hK1 : K ≤ 1152921504606846976) :
    ∃ g off cap m F3, v = .slice (some ⟨g, off, none⟩) ys.length cap ∧ g ∈ F ∧ (∀ o, W.frozen? ⟨g, o, none⟩ = false) ∧
      (W.cell? ⟨g, off + j * 4, none⟩ = some (.int .i64 ys[j].source) ∧ W.cell? ⟨g, off + j * 4 + 1, none⟩ = some (.int .i64 ys[j].key) ∧ W.cell? ⟨g, off + j * 4 + 2, none⟩ = some (.int .i64 ys[j].version) ∧ W.cell? ⟨g, off + j * 4 + 3, none⟩ = some m) ∧
      (∀ b ∈ F3, b ∈ F) ∧ F3.Nodup ∧ OwnSl strO (((W.setCell ⟨g, off + j * 4, none⟩ (.int .i64 K)).setCell ⟨g, off + j * 4 + 1, none⟩ (.int .i64 (K + 1))).setCell ⟨g, off + j * 4 + 2, none⟩ (.int .i64 (K + 1 + 1))) m ys[j].fields F3 ∧
      ∀ w2 zs, (∀ b ∈ F, b ∉ F3 → w2.heap[b]? = (((W.setCell ⟨g, off + j * 4, none⟩ (.int .i64 K)).setCell ⟨g, off + j * 4 + 1, none⟩ (.int .i64 (K + 1))).setCell ⟨g, off + j * 4 + 2, none⟩ (.int .i64 (K + 1 + 1))).heap[b]?) → OwnSl strO w2 m zs F3 → OwnSl recordO w2 v (ys.set j ⟨K, K + 1, K + 1 + 1, zs⟩) F := by
  obtain ⟨g, off, cap2, m, F1, rfl, hg, hfr, hcs, s0, _, _, _, _, _, _⟩ := ho.rec_at hN hjy
  have c3 := hcs.2.2.2
  have o1 := s0 K (by unfold I64; omega)
  have hy1 : j < (ys.set j ⟨K, ys[j].key, ys[j].version, ys[j].fields⟩).length := by rw [List.length_set]; exact hjy
  obtain ⟨g1, off1, cap1, m1, _, e, _, _, ⟨_, _, _, _⟩, _, s1, _, _, _, _, _⟩ := o1.rec_at hN hy1
  injection e with e1 e2 e3
  injection e1 with e1
  injection e1 with e1 e4 _
  subst e1; subst e4
  clear e2 e3
  have o2 := s1 (K + 1) (by unfold I64; omega)
  simp only [List.getElem_set_self, List.set_set] at o2
  have hy2 : j < (ys.set j ⟨K, K + 1, ys[j].version, ys[j].fields⟩).length := by rw [List.length_set]; exact hjy
  obtain ⟨g1, off1, cap1, m2, _, e, _, _, ⟨_, _, _, _⟩, _, _, s2, _, _, _, _⟩ := o2.rec_at hN hy2
  injection e with e1 e2 e3
  injection e1 with e1
  injection e1 with e1 e4 _
  subst e1; subst e4
  clear e2 e3
  have o3 := s2 (K + 1 + 1) (by unfold I64; omega)
  simp only [List.getElem_set_self, List.set_set] at o3
  have hy3 : j < (ys.set j ⟨K, K + 1, K + 1 + 1, ys[j].fields⟩).length := by rw [List.length_set]; exact hjy
  obtain ⟨g1, off1, cap1, m3, F3, e, _, _, ⟨_, _, _, c3'⟩, _, _, _, hsub, hN3, hm3, hin⟩ := o3.rec_at hN hy3
  injection e with e1 e2 e3
  injection e1 with e1
  injection e1 with e1 e4 _
  subst e1; subst e4
  clear e2 e3
  simp only [List.getElem_set_self, List.set_set] at hm3 hin
  have q2 := World.cell?_setCell_other (w := (W.setCell ⟨g, off + j * 4, none⟩ (.int .i64 K)).setCell ⟨g, off + j * 4 + 1, none⟩ (.int .i64 (K + 1))) (v := .int .i64 (K + 1 + 1)) (a := ⟨g, off + j * 4 + 2, none⟩) (b := ⟨g, off + j * 4 + 3, none⟩) (fun e => by injection e with _ e _; omega)
  have q1 := World.cell?_setCell_other (w := W.setCell ⟨g, off + j * 4, none⟩ (.int .i64 K)) (v := .int .i64 (K + 1)) (a := ⟨g, off + j * 4 + 1, none⟩) (b := ⟨g, off + j * 4 + 3, none⟩) (fun e => by injection e with _ e _; omega)
  have q0 := World.cell?_setCell_other (w := W) (v := .int .i64 K) (a := ⟨g, off + j * 4, none⟩) (b := ⟨g, off + j * 4 + 3, none⟩) (fun e => by injection e with _ e _; omega)
  have hmm : m3 = m := Option.some.inj (c3'.symm.trans (q2.trans (q1.trans (q0.trans c3))))
  subst m3
  exact ⟨g, off, cap2, m, F3, rfl, hg, hfr, hcs, hsub, hN3, hm3, hin⟩

end Go.Proofs.YtddjefbdekinbaaGreatDoor

namespace Go.Proofs.YtddjefbdekinbaaGreatDoor
open Go.RowKit

set_option maxHeartbeats 400000 in
theorem laws_big (v : Value) (bs : List Int) (w : World) (h : Sl u8R w v bs) :
    Calls Tryz.prog 4 #[v] w fun e w2 => e = .returned (.bool (decide (1048576 < bs.length))) ∧ w = w2 := by
  obtain ⟨A, cap, rfl, hm⟩ := h.form
  go_enter Tryz.func4, Tryz.ntmps4
  go_wp2
  go_ret
  exact ⟨ret_bool (by simp; try omega), rfl⟩
end Go.Proofs.YtddjefbdekinbaaGreatDoor

namespace Go.Proofs.YtddjefbdekinbaaGreatDoor
open Go.RowKit

theorem col_word {l : List UInt8} {b : UInt8} (h : ¬ b = 32) : (colP (l ++ [b])).1 = (if (colP l).1 ≠ [] ∧ (colP l).2 = true then (colP l).1 ++ [32] else (colP l).1) ++ [b] := by
  rw [colP_step]; unfold colStep; rw [if_neg h]
theorem col_blank (l : List UInt8) : (colP (l ++ [32])).1 = (colP l).1 := by rw [colP_step]; unfold colStep; rw [if_pos rfl]
theorem colP_len (l : List UInt8) : (colP l).1.length ≤ l.length := by have := col_len l; split at this <;> omega

set_option maxHeartbeats 400000 in
set_option maxRecDepth 20000 in
theorem spec_CollapseSpaces (s : ByteArray) (w : World) (hs : s.size ≤ 1099511627770) :
    Calls Tryz.prog 26 #[.string s] w fun e w2 => e = .returned (.string ⟨(colP s.data.toList).1.toArray⟩) ∧ Ext w w2 := by
  have HS := hid hs
  have hs2 : s.size ≤ 9223372036854775807 := by omega
  clear hs
  go_enter Tryz.func26, Tryz.ntmps26
  go_wp2
  go_loopw [3, 4] (fun o i wr => ∃ (k : Nat), k ≤ s.size ∧ i = .int .i64 k ∧ Bld u8O wr w.heap.size 5 o (colP (s.data.toList.take k)).1 [] ∧ Ext w wr) (fun _ i _ => s.size - (intOf i).toNat)
  case atStart => exact ⟨0, Nat.zero_le _, rfl, by simpa [colP] using Bld.lit w (Nat.le_refl _) _, (Ext.refl _).alloc _⟩
  case round =>
    obtain ⟨k, hk, rfl, hB, hx⟩ := hrel
    by_cases hlt : k < s.size
    · have hb := s[k].toNat_lt
      have HT := hid (bytes_take s k hlt)
      have HL := hid (show (colP (s.data.toList.take k)).1.length + 2 ≤ 1099511627776 by have := HS.out; have := colP_len (s.data.toList.take k); rw [List.length_take] at this; omega)
      have hsp := col_space (s.data.toList.take k)
      generalize hL : (colP (s.data.toList.take k)).1 = L at hB HL
      have HLL := hid hL
      clear hL
      obtain ⟨A, cap, rfl⟩ := hB.form
      by_cases h32 : s[k].toNat = 32
      · have he := hid (show s[k] = 32 from u8_eq.2 h32)
        have hn := hid (show (colP (s.data.toList.take k ++ [32])).1 = L by rw [col_blank, HLL.out])
        clear hsp
        go_wp2
        go_roundw
        case rel => exact ⟨k + 1, by omega, by go_num, by rw [HT.out, he.out, hn.out]; exact hB, hx⟩
        case measure => simp [intOf]; omega
      · have hne := hid (show ¬ s[k] = 32 from fun e => h32 (by rw [e]; rfl))
        by_cases h0 : L.length = 0
        · have hn := hid (show (colP (s.data.toList.take k ++ [s[k]])).1 = L ++ [s[k]] by
            rw [col_word hne.out, HLL.out, if_neg]
            intro h9
            exact h9.1 (List.eq_nil_of_length_eq_zero h0))
          clear hsp
          go_wp2_with (at_builtin; refine wpList_app1 elemU8 (by decide) rfl _ _ rfl hB rfl wr.heap.size 1 rfl rfl (one_u8 _) (own_u8 _ s[k] rfl) fresh_nil (by have := HL.out; omega) (by decide) hx.size ?_; intro v9 w9 hB9 hE9)
          go_roundw
          case rel => exact ⟨k + 1, by omega, by go_num, by rw [HT.out, hn.out]; exact hB9, hE9 _ (Nat.le_refl _) hx⟩
          case measure => simp [intOf]; omega
        · have hk0 : 0 < k := by
            rcases Nat.eq_zero_or_pos k with h | h
            · subst h
              rw [List.take_zero] at HLL
              exact absurd (by rw [← HLL.out]; rfl) h0
            · exact h
          obtain ⟨j, rfl⟩ : ∃ j, k = j + 1 := ⟨k - 1, by omega⟩
          have hlast : (s.data.toList.take (j + 1)).getLast? = some s[j] := by rw [bytes_take s j (by omega)]; simp
          rw [hlast] at hsp
          have hw : wrap64 ((j : Int) + 1 - 1) = (j : Int) := by unfold wrap64; omega
          have hcast : ((j + 1 : Nat) : Int) - 1 = (j : Int) := by omega
          by_cases hp : s[j].toNat = 32
          · have hn := hid (show (colP (s.data.toList.take (j + 1) ++ [s[j + 1]])).1 = (L ++ [32]) ++ [s[j + 1]] by
              rw [col_word hne.out, HLL.out, if_pos]
              refine ⟨fun h9 => h0 (by rw [h9]; rfl), ?_⟩
              rw [hsp, u8_eq.2 (show s[j].toNat = (32 : UInt8).toNat from hp)]
              rfl)
            clear hsp hlast
            go_wp2_with (first | (at_builtin; refine wpList_app1 elemU8 (by decide) rfl _ _ rfl hB9 rfl w9.heap.size 1 rfl rfl (one_u8 _) (own_u8 _ s[j + 1] rfl) fresh_nil (by have := HL.out; rw [List.length_append, List.length_singleton]; omega) (by decide) (hE9 _ (Nat.le_refl _) hx).size ?_; intro v8 w8 hB8 hE8) | (at_builtin; refine wpList_app1 elemU8 (by decide) rfl _ _ rfl hB rfl wr.heap.size 1 rfl rfl (one_u8 _) (own_u8 _ 32 rfl) fresh_nil (by have := HL.out; omega) (by decide) hx.size ?_; intro v9 w9 hB9 hE9))
            go_roundw
            case rel => exact ⟨j + 2, by omega, by go_num, by rw [HT.out, hn.out]; exact hB8, hE8 _ (Nat.le_refl _) (hE9 _ (Nat.le_refl _) hx)⟩
            case measure => simp [intOf]; omega
          · have hn := hid (show (colP (s.data.toList.take (j + 1) ++ [s[j + 1]])).1 = L ++ [s[j + 1]] by
              rw [col_word hne.out, HLL.out, if_neg]
              intro h9
              have := h9.2
              rw [hsp, decide_eq_true_eq] at this
              injection this with this
              exact hp (by rw [this]; rfl))
            clear hsp hlast
            go_wp2_with (at_builtin; refine wpList_app1 elemU8 (by decide) rfl _ _ rfl hB rfl wr.heap.size 1 rfl rfl (one_u8 _) (own_u8 _ s[j + 1] rfl) fresh_nil (by have := HL.out; omega) (by decide) hx.size ?_; intro v9 w9 hB9 hE9)
            go_roundw
            case rel => exact ⟨j + 2, by omega, by go_num, by rw [HT.out, hn.out]; exact hB9, hE9 _ (Nat.le_refl _) hx⟩
            case measure => simp [intOf]; omega
    · rw [List.take_of_length_le (by simp; omega)] at hB
      have hcv := conv_bld hB
      go_wp2
      go_ret
      exact ⟨rfl, hx⟩

/-! ### Normalize -/
theorem normS_eq (s : ByteArray) : normS s = ⟨(colP (stripL (s.data.toList.map foldB))).1.toArray⟩ := rfl
theorem mk_size (l : List UInt8) : (⟨l.toArray⟩ : ByteArray).size = l.length := by simp [ByteArray.size_mk']
theorem fold_size (s : ByteArray) : (⟨(s.data.toList.map foldB).toArray⟩ : ByteArray).size = s.size := by
  rw [mk_size, List.length_map]; exact Array.length_toList
theorem strip_size (s : ByteArray) : (⟨(stripL (s.data.toList.map foldB)).toArray⟩ : ByteArray).size ≤ s.size := by
  rw [mk_size]
  have := strip_len (s.data.toList.map foldB)
  rw [List.length_map] at this
  have h2 : s.data.toList.length = s.size := Array.length_toList
  omega
theorem norm_size (s : ByteArray) : (normS s).size ≤ s.size := by
  rw [normS_eq, mk_size]
  have := colP_len (stripL (s.data.toList.map foldB))
  have h := strip_size s
  rw [mk_size] at h
  omega
set_option maxHeartbeats 400000 in
theorem spec_Normalize (s : ByteArray) (w : World) (hs : s.size ≤ 1073741824) :
    Calls Tryz.prog 11 #[.string s] w fun e w2 => e = .returned (.string (normS s)) ∧ Ext w w2 := by
  have e1 := fold_size s
  have e2 := strip_size s
  go_enter Tryz.func11, Tryz.ntmps11
  go_wp2_with fail
  refine (spec_FoldCase s _ (by omega)).mono ?_
  rintro e w2 ⟨rfl, x2⟩
  go_wp2_with fail
  refine (spec_StripMarks _ _ (by omega)).mono ?_
  rintro e w3 ⟨rfl, x3⟩
  go_wp2_with fail
  refine (spec_CollapseSpaces _ _ (by omega)).mono ?_
  rintro e w4 ⟨rfl, x4⟩
  go_wp2
  go_ret
  exact ⟨rfl, (by repeat (first | with_reducible exact Ext.refl _ | with_reducible assumption | with_reducible refine Ext.drew ?_ | with_reducible refine Ext.alloc ?_ _ | with_reducible refine Ext.trans ?_ (by with_reducible assumption)))⟩
set_option maxHeartbeats 400000 in
theorem impl_Normalize (s : ByteArray) (w : World) (hs : s.size ≤ 1073741824) (M : ML w) :
    Calls Tryz.prog 34 #[.string s] w fun e w2 => e = .returned (.string (normS s)) ∧ Ext w w2 := by
  have e1 := fold_size s
  have e2 := strip_size s
  go_enter Tryz.func34, Tryz.ntmps34
  go_wp2_with fail
  refine (impl_FoldCase s _ (by omega)).mono ?_
  rintro e w2 ⟨rfl, x2⟩
  go_wp2_with fail
  refine (impl_StripMarks _ _ (by omega) (M.mono x2)).mono ?_
  rintro e w3 ⟨rfl, x3⟩
  go_wp2_with fail
  refine (impl_CollapseSpaces _ _ (by omega)).mono ?_
  rintro e w4 ⟨rfl, x4⟩
  go_wp2
  go_ret
  exact ⟨rfl, (by repeat (first | with_reducible exact Ext.refl _ | with_reducible assumption | with_reducible refine Ext.drew ?_ | with_reducible refine Ext.alloc ?_ _ | with_reducible refine Ext.trans ?_ (by with_reducible assumption)))⟩
end Go.Proofs.YtddjefbdekinbaaGreatDoor

namespace Go.Proofs.YtddjefbdekinbaaGreatDoor
open Go.RowKit

theorem cmpI_anti (a b : Int) : cmpI b a = -cmpI a b := by unfold cmpI; split <;> split <;> (try split) <;> (try split) <;> omega
theorem bless_asym : ∀ {x y : List UInt8}, Op.bytesLess x y = true → Op.bytesLess y x = false
  | [], [], h => by simp [Op.bytesLess] at h
  | _ :: _, [], h => by simp [Op.bytesLess] at h
  | [], _ :: _, _ => by simp [Op.bytesLess]
  | a :: x, b :: y, h => by
    have ih := @bless_asym x y
    simp only [Op.bytesLess, Bool.or_eq_true, Bool.and_eq_true, decide_eq_true_eq, beq_iff_eq] at h
    simp only [Op.bytesLess, Bool.or_eq_false_iff, Bool.and_eq_false_iff, decide_eq_false_iff_not, beq_eq_false_iff_ne]
    rcases h with h | ⟨h, h2⟩
    · have h' := UInt8.lt_iff_toNat_lt.1 h
      exact ⟨fun k => by have := UInt8.lt_iff_toNat_lt.1 k; omega, .inl fun e => by rw [e] at h'; omega⟩
    · subst h
      exact ⟨fun k => by have := UInt8.lt_iff_toNat_lt.1 k; omega, .inr (ih h2)⟩
theorem bless_tri : ∀ {x y : List UInt8}, Op.bytesLess x y = false → ¬ x = y → Op.bytesLess y x = true
  | [], [], _, h => absurd rfl h
  | _ :: _, [], _, _ => by simp [Op.bytesLess]
  | [], _ :: _, h, _ => by simp [Op.bytesLess] at h
  | a :: x, b :: y, h, hn => by
    have ih := @bless_tri x y
    simp only [Op.bytesLess, Bool.or_eq_false_iff, Bool.and_eq_false_iff, decide_eq_false_iff_not, beq_eq_false_iff_ne] at h
    simp only [Op.bytesLess, Bool.or_eq_true, Bool.and_eq_true, decide_eq_true_eq, beq_iff_eq]
    by_cases e : a = b
    · subst e
      refine .inr ⟨rfl, ih ?_ fun e => hn (by rw [e])⟩
      rcases h.2 with h2 | h2
      · exact absurd rfl h2
      · exact h2
    · refine .inl (UInt8.lt_iff_toNat_lt.2 ?_)
      have h1 : ¬ a.toNat < b.toNat := fun k => h.1 (UInt8.lt_iff_toNat_lt.2 k)
      have h2 : ¬ a.toNat = b.toNat := fun k => e (UInt8.toNat_inj.1 k)
      omega
theorem toList_inj2 {a b : ByteArray} (h : a.toList = b.toList) : a = b := toList_inj (by simp [h])
theorem cmpS_anti (a b : ByteArray) : cmpS b a = -cmpS a b := by
  by_cases e : a = b
  · subst e; rw [cmpS_zero.2 rfl]; rfl
  · have hn : ¬ a.toList = b.toList := fun k => e (toList_inj2 k)
    cases h : Op.bytesLess a.toList b.toList with
    | true =>
      rw [cmpS_lt h, cmpS_gt (bless_asym h) (by rw [beq_eq_false_iff_ne]; exact fun k => hn k.symm)]; rfl
    | false => rw [cmpS_gt h (by rw [beq_eq_false_iff_ne]; exact hn), cmpS_lt (bless_tri h hn)]
theorem cmpSL_anti : ∀ xs ys : List ByteArray, cmpSL ys xs = -cmpSL xs ys
  | [], [] => rfl
  | [], _ :: _ => rfl
  | _ :: _, [] => rfl
  | x :: xs, y :: ys => by
    rw [cmpSL, cmpSL, cmpS_anti x y, cmpSL_anti xs ys]
    by_cases h : cmpS x y = 0
    · rw [if_pos h, if_pos (by omega)]
    · rw [if_neg h, if_neg (by omega)]
theorem firstNZ_anti (l : List Int) : firstNZ (l.map fun x => -x) = -firstNZ l := by
  induction l with
  | nil => rfl
  | cons a l ih =>
    rw [List.map_cons, firstNZ_cons, firstNZ_cons, ih]
    by_cases h : a = 0
    · rw [if_pos h, if_pos (by omega)]
    · rw [if_neg h, if_neg (by omega)]
theorem cmpO_anti (x y : Record) : cmpO y x = -cmpO x y := by
  unfold cmpO
  rw [← firstNZ_anti, cmpI_anti x.source, cmpI_anti x.key]; rfl
theorem cmpR_anti (x y : Record) : cmpR y x = -cmpR x y := by
  unfold cmpR
  rw [← firstNZ_anti, cmpO_anti x y, cmpI_anti x.version, cmpSL_anti x.fields]; rfl
end Go.Proofs.YtddjefbdekinbaaGreatDoor
