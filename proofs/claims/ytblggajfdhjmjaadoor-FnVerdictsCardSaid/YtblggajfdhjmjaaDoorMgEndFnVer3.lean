/-
  WALKS: strings.IndexAny at "=!", every string (what the shelf has is of ASCII bytes, or of more than eight).
-/
import Derived.Test.YtblggajfdhjmjaaDoorMgEndFnVer0
import Derived.Laws.Runes
import Derived.Laws.RangeAny
import Derived.Laws.RangeString
import Derived.Deep.LoopGhost
import Derived.WalkMore
import Derived.Lib.OthersKept

namespace Go.Proofs.YtblggajfdhjmjaaDoor
open Go.Shelf Go.RowKit

def sSg : ByteArray := ⟨#[61, 33]⟩
theorem indexAny_lt (cs : List UInt8) : ∀ l : List UInt8, Lib.indexAny l cs < l.length
  | [] => by show (-1 : Int) < ((0 : Nat) : Int); decide
  | b :: l => by
    have ih := indexAny_lt cs l
    unfold Lib.indexAny
    rw [List.length_cons]
    split
    · omega
    · split <;> omega

set_option maxHeartbeats 400000 in
theorem utf8_ValidRune (r : Int) (w : World) (h : 128 ≤ r) :
    Calls Tryd.prog 60 #[.int .i32 r] w fun e w2 => e = .returned (.bool (validRune r)) ∧ w = w2 := by
  have e : validRune r = decide ((0 ≤ r ∧ r < 55296) ∨ (57343 < r ∧ r ≤ 1114111)) := rfl
  have hv := hid e
  clear e
  by_cases h1 : r < 55296
  · go_enter Tryd.func60, Tryd.ntmps60
    go_wp2
    go_ret
    exact ⟨ret_bool (by rw [hv.out]; simp; omega), rfl⟩
  · by_cases h2 : 57343 < r
    · by_cases h3 : r ≤ 1114111
      · go_enter Tryd.func60, Tryd.ntmps60
        go_wp2
        go_ret
        exact ⟨ret_bool (by rw [hv.out]; simp; omega), rfl⟩
      · go_enter Tryd.func60, Tryd.ntmps60
        go_wp2
        go_ret
        exact ⟨ret_bool (by rw [hv.out]; simp; omega), rfl⟩
    · go_enter Tryd.func60, Tryd.ntmps60
      go_wp2
      go_ret
      exact ⟨ret_bool (by rw [hv.out]; simp; omega), rfl⟩

set_option maxHeartbeats 400000 in
set_option maxRecDepth 20000 in
theorem strings_IndexRune_bad (w : World) :
    Calls Tryd.prog 47 #[.string sSg, .int .i32 65533] w fun e w2 => e = .returned (.int .i64 (-1)) ∧ Ext w w2 := by
  have hz : sSg.size = 2 := rfl
  go_enter Tryd.func47, Tryd.ntmps47
  go_wp2
  go_loopg [5, 6] 2 (fun g _ _ wx => ∃ i : Nat, i + g = 2 ∧ wx = w.iter sSg i)
  case atStart => exact ⟨0, by omega, rfl⟩
  case round =>
    obtain ⟨i, hig, rfl⟩ := hrel
    cases gk with
    | zero =>
      obtain rfl : i = 2 := by omega
      have hnx := fun ty => run_next_end (P := Tryd.prog) w sSg 2 ty (by decide)
      go_wp2
      go_ret
      exact ⟨rfl, (Ext.refl w).alloc _⟩
    | succ g =>
      have hi : i = 0 ∨ i = 1 := by omega
      rcases hi with rfl | rfl
      · have hnx := fun ty => run_next_ascii (P := Tryd.prog) w sSg 0 ty (by decide) (by decide)
        have e0 : (sSg[0]'(by decide)).toNat = 61 := rfl
        rw [e0] at hnx
        go_wp2
        go_roundg g
        case measure => omega
        case rel => exact ⟨1, by omega, rfl⟩
      · have hnx := fun ty => run_next_ascii (P := Tryd.prog) w sSg 1 ty (by decide) (by decide)
        have e0 : (sSg[1]'(by decide)).toNat = 33 := rfl
        rw [e0] at hnx
        go_wp2
        go_roundg g
        case measure => omega
        case rel => exact ⟨2, by omega, rfl⟩

set_option maxHeartbeats 400000 in
set_option maxRecDepth 20000 in
theorem strings_IndexRune_high (r : Int) (w : World) (h : 128 ≤ r) (hmax : r ≤ 2147483647) :
    Calls Tryd.prog 47 #[.string sSg, .int .i32 r] w fun e w2 => e = .returned (.int .i64 (-1)) ∧ Ext w w2 := by
  by_cases hb : r = 65533
  · subst hb
    exact strings_IndexRune_bad w
  · cases hv : validRune r with
    | false =>
      go_enter Tryd.func47, Tryd.ntmps47
      go_wp2_with (go_at_call 60; refine (utf8_ValidRune r _ h).mono ?_; rintro e w2 ⟨rfl, rfl⟩; rw [hv])
      go_ret
      exact ⟨rfl, Ext.refl _⟩
    | true =>
      obtain ⟨hz2, hz4, hlast⟩ := encode_facts r (by rw [validRune_eq]; exact hv) h
      have hu : (Tryd.prog.underlying 21).isSome = true := by rw [Tryd.underlying21]; rfl
      have hl := hlast (by omega)
      clear hlast
      have hz : sSg.size = 2 := rfl
      by_cases hc2 : (Utf8.encode r).size = 2
      · have he : ∀ x, Lib.indexByte (sSg.extract 2 2).data.toList x = -1 := fun x => rfl
        have hb1 : (sSg[1]'(by decide)).toNat = 33 := rfl
        have hl1 : 128 ≤ ((Utf8.encode r)[1]'(by omega)).toNat := by
          have e : (Utf8.encode r).size - 1 = 1 := by omega
          simpa only [e] using hl
        have h33 : ((33 : Int) != (((Utf8.encode r)[1]'(by omega)).toNat : Int)) = true := by rw [bne_iff_ne]; omega
        clear hl
        go_enter Tryd.func47, Tryd.ntmps47
        go_wp2_with (go_at_call 60; refine (utf8_ValidRune r _ h).mono ?_; rintro e w2 ⟨rfl, rfl⟩; rw [hv])
        go_step3
        go_wp2
        go_loop [9, 10, 11, 12] (fun i _ _ _ => i = .int .i64 1) (fun _ _ _ _ => 0)
        case atStart => rfl
        case round =>
          subst hrel
          go_wp2_with fail
          go_step3
          go_wp2_with fail
          refine wp_region_ext (by kernel_rfl) (by kernel_rfl) ?_
          repeat (go_big_quiet_step ((fail)))
          refine wpQuiet_nil ?_
          rintro w1 ⟨⟨_, x1⟩, rfl⟩
          go_wp2_with fail
          refine wp_region_ext (by kernel_rfl) (by kernel_rfl) ?_
          repeat (go_big_quiet_step (((go_at_call 59; exact quiet_same (Calls.mono (Any.strings_IndexByte lShIdxB _ _ _) fun _ _ h9 => ⟨h9.1.trans (ret_int (he _)), h9.2.symm⟩)))))
          refine wpQuiet_nil ?_
          rintro w2 ⟨⟨_, x2⟩, rfl⟩
          go_wp2
          simp only [Exit.noGoto_ret, Exit.inBlock]
          simp +zetaDelta only [Exit.then, Exit.noGoto_ret, Exit.inBlock]
          go_ret
          exact ⟨rfl, x1.trans x2⟩
      · go_enter Tryd.func47, Tryd.ntmps47
        go_wp2_with (go_at_call 60; refine (utf8_ValidRune r _ h).mono ?_; rintro e w2 ⟨rfl, rfl⟩; rw [hv])
        go_step3
        go_wp2
        go_loop [9, 10, 11, 12] (fun i _ _ _ => i = .int .i64 (((Utf8.encode r).size : Int) - 1)) (fun _ _ _ _ => 0)
        case atStart => rfl
        case round =>
          subst hrel
          go_wp2
          refine bodyPost_ret (v := .int .i64 (-1)) (by simp [results, Tryd.results47, go_sem]) rfl ?_
          exact ⟨rfl, Ext.refl _⟩

theorem below_step {w wr : World} (h : Ext w wr) (s : ByteArray) (pos : Nat) : Ext w (wr.iterAt w.heap.size s pos) := Lib.below_iterAt h (Nat.le_refl _) s pos
set_option maxHeartbeats 400000 in
theorem strings_shouldUseASCIISet (n : Int) (w : World) :
    Calls Tryd.prog 48 #[.int .i64 n] w fun e w2 => e = .returned (.bool (decide (8 < n))) ∧ w = w2 := by
  go_enter Tryd.func48, Tryd.ntmps48
  go_wp2
  go_ret
  exact ⟨rfl, rfl⟩

set_option maxHeartbeats 400000 in
set_option maxRecDepth 20000 in
/-- at most eight bytes, whatever they be: some index, or -1 -/
theorem strings_IndexAny_few (s : ByteArray) (w : World) (h8 : s.size ≤ 8) :
    Calls Tryd.prog 30 #[.string s, .string sSg] w fun e w2 => ∃ i : Int, e = .returned (.int .i64 i) ∧ (-1 ≤ i ∧ i < s.size) ∧ Ext w w2 := by
  have hz : sSg.size = 2 := rfl
  have hemp : sSg.toList.isEmpty = false := by rw [Lib.toList_data]; rfl
  have h8z : decide ((8 : Int) < (s.size : Int)) = false := decide_eq_false (by omega)
  go_enter Tryd.func30, Tryd.ntmps30
  go_wp2_with (go_at_call 48; refine (strings_shouldUseASCIISet _ _).mono ?_; rintro e w' ⟨rfl, rfl⟩; rw [h8z])
  go_loopw [9, 10] (fun _ _ wx => ∃ i : Nat, i ≤ s.size + 4 ∧ wx.heap[w.heap.size]? = some (.stringIter s i) ∧ Ext w wx) (fun _ _ wx => s.size + 4 - wx.iterPos w.heap.size)
  case atStart => exact ⟨0, Nat.zero_le _, World.iter_heap w s 0, (Ext.refl w).alloc _⟩
  case round =>
    obtain ⟨i, hi4, hit, hx⟩ := hrel
    have hip : wr.iterPos w.heap.size = i := by unfold World.iterPos; rw [hit]
    by_cases hi : i < s.size
    · have hnx := fun ty => Lib.run_next_any_at (P := Tryd.prog) wr w.heap.size s i ty hit hi
      have hw4 : (Utf8.decode s i).2 ≤ 4 := by
        unfold Utf8.decode
        simp only
        repeat' split
        all_goals (try decide)
        all_goals omega
      have hle := decode_le s i
      have hx2 := below_step hx s (i + (Utf8.decode s i).2)
      have hit2 := Lib.iterAt_heap wr w.heap.size s i (i + (Utf8.decode s i).2) hit
      have HIT := hid hit2
      have HX2 := hid hx2
      have HIP := hid hip
      have HW4 := hid hw4
      clear hit2 hx2 hip hw4
      by_cases ha : (s[i]'hi).toNat < 128
      · have hdc := decode_ascii s i hi ha
        rw [hdc] at hnx hle HIT HX2 HW4
        simp only at hnx hle HIT HX2 HW4
        obtain ⟨x, hx9⟩ : ∃ x : UInt8, s[i]'hi = x := ⟨_, rfl⟩
        rw [hx9] at hnx ha
        clear hdc hx9
        have hb := Lib.indexByte_ge sSg.data.toList ((x.toNat : Int)).toNat.toUInt8
        have HIP2 := hid (show (wr.iterAt w.heap.size s (i + 1)).iterPos w.heap.size = i + 1 by unfold World.iterPos; rw [HIT.out])
        obtain ⟨W2, hW2⟩ : ∃ W2, W2 = wr.iterAt w.heap.size s (i + 1) := ⟨_, rfl⟩
        rw [← hW2] at hnx HIT HX2 HIP2
        clear hW2
        go_wp2_with fail
        refine (Any.strings_IndexRune_ascii lShRune sSg _ _ (by omega) (by omega)).mono ?_
        rintro e w2 ⟨rfl, hw⟩
        rw [hw]
        generalize Lib.indexByte sSg.data.toList ((x.toNat : Int)).toNat.toUInt8 = L at hb ⊢
        by_cases hL : 0 ≤ L
        · go_wp2
          go_ret
          exact ⟨_, rfl, ⟨by omega, by omega⟩, HX2.out⟩
        · go_wp2
          go_roundw
          case rel => exact ⟨i + 1, by omega, HIT.out, HX2.out⟩
          case measure => rw [HIP2.out, HIP.out]; omega
      · have hdh := decode_high s i hi (by omega)
        have HIP2 := hid (show (wr.iterAt w.heap.size s (i + (Utf8.decode s i).2)).iterPos w.heap.size = i + (Utf8.decode s i).2 by unfold World.iterPos; rw [HIT.out])
        obtain ⟨W2, hW2⟩ : ∃ W2, W2 = wr.iterAt w.heap.size s (i + (Utf8.decode s i).2) := ⟨_, rfl⟩
        rw [← hW2] at hnx HIT HX2 HIP2
        clear hW2
        obtain ⟨d, hd⟩ : ∃ d, d = Utf8.decode s i := ⟨_, rfl⟩
        rw [← hd] at hnx HIT HIP2 HW4 hdh hle
        clear hd ha
        obtain ⟨hd1, hd2⟩ := hdh
        have HD2 := hid hd2
        clear hd2
        go_wp2_with fail
        refine (strings_IndexRune_high _ _ (by omega) (by omega)).mono ?_
        rintro e w2 ⟨rfl, x2⟩
        go_wp2
        go_roundw
        case rel => exact ⟨i + d.2, by have := HW4.out; omega, (x2.block (block_lt HIT.out)).trans HIT.out, HX2.out.trans x2⟩
        case measure =>
          have e : w2.iterPos w.heap.size = i + d.2 := by
            unfold World.iterPos
            rw [(x2.block (block_lt HIT.out)).trans HIT.out]
          have := HD2.out
          rw [e, HIP.out]; omega
    · have hnx := fun ty => Lib.run_next_end_at (P := Tryd.prog) wr w.heap.size s i ty hit hi
      go_wp2
      go_ret
      exact ⟨_, rfl, ⟨by omega, by omega⟩, hx⟩
end Go.Proofs.YtblggajfdhjmjaaDoor
