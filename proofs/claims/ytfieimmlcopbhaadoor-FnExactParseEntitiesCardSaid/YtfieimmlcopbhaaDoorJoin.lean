/-
  WALKS: strings.Join (after the shelf), joinInts.
-/
import Derived.Test.YtfieimmlcopbhaaDoorFmtI
import Derived.Test.YtfieimmlcopbhaaDoorStrs
import Derived.Test.YtfieimmlcopbhaaDoorInts
import Derived.Test.YtfieimmlcopbhaaDoorShJoin
import Derived.Test.YtfieimmlcopbhaaDoorApp
namespace Go.Proofs.YtfieimmlcopbhaaDoor
open Go.RowKit

theorem xJoin : Builder.Extra Tryd.prog lShJoin_ren :=
  { sizeBuilder := by kernel_rfl, liesBuilder := by kernel_rfl, t5 := Tryd.underlying5, a5 := Tryd.isAgg5, z5 := Tryd.sizeOf5, v5 := Tryd.zeroValue5, infoByte := by kernel_rfl, cellsByte := by kernel_rfl, sizeByte := by kernel_rfl, neB5 := by decide }

/-- texts joined by a separator -/
def joinS (xs : List ByteArray) (sep : ByteArray) : ByteArray := ⟨(Go.Lib.join (xs.map (·.data.toList)) sep.data.toList).toArray⟩
theorem joinS_nil (sep : ByteArray) : joinS [] sep = ⟨#[]⟩ := rfl
theorem joinS_data (xs : List ByteArray) (sep : ByteArray) : (joinS xs sep).data.toList = Go.Lib.join (xs.map (·.data.toList)) sep.data.toList := by unfold joinS; simp
theorem joinTail_append (sep : List UInt8) (a b : List (List UInt8)) : Go.Lib.joinTail sep (a ++ b) = Go.Lib.joinTail sep a ++ Go.Lib.joinTail sep b := by unfold Go.Lib.joinTail; simp
theorem joinS_one (x sep : ByteArray) : joinS [x] sep = x := by
  apply Go.WideShapes.bytes_inj
  rw [joinS_data]
  exact Go.Lib.join_one _ _
theorem joinS_snoc (xs : List ByteArray) (x sep : ByteArray) (h : xs ≠ []) : joinS (xs ++ [x]) sep = joinS xs sep ++ sep ++ x := by
  cases xs with
  | nil => exact absurd rfl h
  | cons y ys =>
    apply Go.WideShapes.bytes_inj
    simp only [joinS_data, ByteArray.data_append, Array.toList_append, List.map_cons, List.cons_append, List.map_append, Go.Lib.join_cons, joinTail_append]
    simp [Go.Lib.joinTail]
/-- the next text: with the separator ahead, if it is not the first -/
theorem joinS_step (xs : List ByteArray) (k : Nat) (h : k < xs.length) (sep : ByteArray) : joinS (xs.take (k + 1)) sep = if 0 < k then joinS (xs.take k) sep ++ sep ++ xs[k] else xs[k] := by
  rw [List.take_succ_eq_append_getElem h]
  split
  · rename_i hk
    rw [joinS_snoc _ _ _ (List.ne_nil_of_length_pos (by rw [List.length_take]; omega))]
  · have : k = 0 := by omega
    subst this
    simp [joinS_one]
theorem joinS_size (B : Nat) (sep : ByteArray) : ∀ (xs : List ByteArray), (∀ x ∈ xs, x.size ≤ B) → (joinS xs sep).size ≤ xs.length * (B + sep.size) := by
  intro xs hx
  have h : ∀ k, k ≤ xs.length → (joinS (xs.take k) sep).size ≤ k * (B + sep.size) := by
    intro k
    induction k with
    | zero => intro _; rw [List.take_zero, joinS_nil]; exact Nat.zero_le _
    | succ k ih =>
      intro hk
      rw [joinS_step xs k (by omega), Nat.add_mul, Nat.one_mul]
      have h1 := ih (by omega)
      have h2 := hx xs[k] (List.getElem_mem _)
      split
      · rw [ByteArray.size_append, ByteArray.size_append]; omega
      · have := Nat.zero_le (k * (B + sep.size)); omega
  have := h xs.length (Nat.le_refl _)
  rwa [List.take_length] at this

/-- 'a + b' on strings -/
theorem run_cat {P : Program} (t : TypeId) (a b : ByteArray) (h : a.size + b.size ≤ 9223372036854775807) (W : World) : (binOp .add t (.string a) (.string b)).run P W = .ok (.string (a ++ b)) W := by
  have h2 := run_string_add_sum (P := P) (w := W) a b h
  simp only [binOp, h2]
theorem strings_Join_c (v : Value) (xs : List ByteArray) (sep : ByteArray) (w : World) (h : Sl strR w v xs) (hN : xs.length ≤ 140737488355328) (hl : (joinS xs sep).size ≤ 140737488355328) :
    Calls Tryd.prog 57 #[v, .string sep] w fun e w2 => e = .returned (.string (joinS xs sep)) ∧ Ext w w2 := by
  obtain ⟨A, cap, rfl, hm, hi⟩ := h
  cases xs with
  | nil => exact (Any.strings_Join_none lShJoin xJoin A cap sep w).mono fun _ _ ⟨he, hw⟩ => ⟨he, hw ▸ Ext.refl _⟩
  | cons x r =>
    obtain ⟨b, off, _, rfl, _, _⟩ := hi 0 (by simp)
    have hc : ∀ (j : Nat) y, (x :: r)[j]? = some y → w.cell? ⟨b, off + j, none⟩ = some (.string y) := fun j y hj => by
      obtain ⟨hlt, rfl⟩ := List.getElem?_eq_some_iff.1 hj
      obtain ⟨b2, off2, cs, e, ⟨rfl, _⟩, h2⟩ := hi j hlt
      injection e with e
      injection e with e1 e2
      subst e1
      subst e2
      simpa [strR] using h2 0 (by simp [strR])
    have hb := World.block_lt_of_cell? _ _ (hc 0 x rfl)
    exact (Any.strings_Join lShJoin xJoin b off cap (x :: r) sep w hc hb hN hm.1 (by rw [← joinS_data, Array.length_toList]; exact hl)).mono fun _ _ ⟨he, hw⟩ => ⟨he, hw⟩

set_option maxHeartbeats 400000 in
set_option maxRecDepth 20000 in
theorem impl_joinInts (v : Value) (xs : List Int) (sep : ByteArray) (w : World) (h : Sl intR w v xs) (hb : xs.length ≤ 1048576) (hs : sep.size ≤ 100) (T : Tab w) :
    Calls Tryd.prog 71 #[v, .string sep] w fun e w2 => e = .returned (.string (joinS (xs.map itoaS) sep)) ∧ Ext w w2 := by
  obtain ⟨A, cap, rfl, hm⟩ := h.form
  obtain ⟨i0, hi0, hz0, hz1, hz2⟩ := info_parts infoStr
  have hmk := run_mk (P := Tryd.prog) 49 9 i0 _ [.string ByteArray.empty] 16 Tryd.underlying49 hi0 hz0 rfl hz1 hz2 xs.length (by omega) hm
  rw [flat_rep] at hmk
  have hI : ∀ x ∈ xs, I64 x := fun x hx => by
    obtain ⟨i, hi, rfl⟩ := List.getElem_of_mem hx
    obtain ⟨_, _, _, h1, _⟩ := h.int hi
    exact h1
  have HI := hid hI
  clear hI
  go_enter Tryd.func71, Tryd.ntmps71
  go_wp2
  go_loopw [6, 7, 13] (fun _ _ i wr => ∃ k : Nat, k ≤ xs.length ∧ i = .int .i64 k ∧ Blk wr w.heap.size 9 ((xs.take k).map (fun x => Value.string (itoaS x)) ++ List.replicate (xs.length - k) (.string ByteArray.empty)) ∧ Ext w wr) (fun _ _ i _ => xs.length - (intOf i).toNat)
  case atStart => exact ⟨0, Nat.zero_le _, rfl, by simpa using Blk.new w 9 (Array.replicate xs.length (.string ByteArray.empty)), (Ext.refl _).alloc _⟩
  case round =>
    obtain ⟨k, hk, rfl, hblk, hx⟩ := hrel
    by_cases hlt : k < xs.length
    · obtain ⟨b, off, rfl, hi, hc⟩ := (h.mono hx).int hlt
      have hz : List.replicate (xs.length - k) (Value.string ByteArray.empty) = .string ByteArray.empty :: List.replicate (xs.length - (k + 1)) (.string ByteArray.empty) := by
        rw [show xs.length - k = (xs.length - (k + 1)) + 1 by omega, List.replicate_succ]
      rw [hz] at hblk
      clear hz
      have hl : ((xs.take k).map (fun x => Value.string (itoaS x))).length = k := by simp; omega
      have HL := hid hl
      clear hl
      have HI2 := hid hi
      clear hi
      go_wp2_with fail
      refine (impl_FormatInt _ _ HI2.out (T.mono hx)).mono ?_
      rintro e w2 ⟨rfl, x2⟩
      have hblk2 := hblk.ext x2
      obtain ⟨hcell, hfr⟩ := hblk2.at_ HL.out
      have hst := hblk2.store HL.out (.string (itoaS xs[k]))
      have HST := hid hst
      clear hblk hblk2 hst
      go_wp2
      go_roundw
      case rel => exact ⟨k + 1, by omega, by go_num, by rw [List.take_succ_eq_append_getElem hlt, List.map_append]; exact HST.out, (hx.trans x2).setCell (by simp) _⟩
      case measure => simp [intOf]; omega
    · rw [show xs.length - k = 0 by omega, List.take_of_length_le (by omega), List.replicate_zero, List.append_nil] at hblk
      have hml : xs.map (fun x => Value.string (itoaS x)) = (xs.map itoaS).map Value.string := by simp
      rw [hml] at hblk
      have h20 : ∀ x ∈ xs.map itoaS, x.size ≤ 20 := fun x hx => by
        obtain ⟨y, hy, rfl⟩ := List.mem_map.1 hx
        exact itoaS_size (HI.out y hy)
      have ho : OwnSl strO wr (.slice (some ⟨w.heap.size, 0, none⟩) (xs.map itoaS).length (xs.map itoaS).length) (xs.map itoaS) [w.heap.size] :=
        OwnSl.of_blk hblk (by rw [List.length_map]; unfold maxLen; omega) (strs_cells _ _ fun x hx => by have := h20 x hx; unfold maxLen; omega)
      have hsl := ho.sl
      rw [List.length_map] at hsl
      have hj := joinS_size 20 sep _ h20
      rw [List.length_map] at hj
      have hj2 : (joinS (xs.map itoaS) sep).size ≤ 140737488355328 := Nat.le_trans hj (Nat.le_trans (Nat.mul_le_mul hb (show 20 + sep.size ≤ 120 by omega)) (by decide))
      have HJ := hid hj2
      have HS := hid hsl
      clear hj hj2 hsl ho h20 hblk hml
      go_wp2_with fail
      refine (strings_Join_c _ (xs.map itoaS) sep _ HS.out (by rw [List.length_map]; omega) HJ.out).mono ?_
      rintro e w2 ⟨rfl, x2⟩
      go_wp2
      go_ret
      exact ⟨rfl, (by repeat (first | with_reducible exact Ext.refl _ | with_reducible assumption | with_reducible refine Ext.drew ?_ | with_reducible refine Ext.alloc ?_ _ | with_reducible refine Ext.trans ?_ (by with_reducible assumption)))⟩
end Go.Proofs.YtfieimmlcopbhaaDoor
