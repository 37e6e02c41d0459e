/-
  WALKS: ParseVerdict (the program's).
-/
import Derived.Test.YtblggajfdhjmjaaDoorMgEndFnVer5
import Derived.Test.YtblggajfdhjmjaaDoorMgEndFnVer8
import Derived.Test.YtblggajfdhjmjaaDoorMgEndFnVer3
import Derived.Deep.RegionHeld3

namespace Go.Proofs.YtblggajfdhjmjaaDoor
open Go.RowKit

theorem pIs_true {ws : List ByteArray} (h : (pIs ws).2 = true) : (pIs ws).1 = ws.map fun s => (pI s).1 := by
  unfold pIs at h ⊢
  split at h
  · rename_i h1; rw [if_pos h1]
  · cases h
theorem u8_61 (x : UInt8) : (x == 61) = ((x.toNat : Int) == 61) := by
  by_cases h : x = 61
  · subst h; rfl
  · have h2 : ¬ (x.toNat : Int) = 61 := fun e => h (UInt8.toNat_inj.1 (by show x.toNat = 61; omega))
    rw [beq_eq_false_iff_ne.2 h, beq_eq_false_iff_ne.2 h2]
theorem Lib_cut_le (l : List UInt8) (c : UInt8) : (Go.Lib.cut l [c]).1.length ≤ l.length ∧ (Go.Lib.cut l [c]).2.1.length ≤ l.length := by
  rcases cut_of c l with ⟨a, r, ha, rfl⟩ | h
  · rw [libcut_hit ha]; simp; omega
  · rw [libcut_none h]; simp
theorem V_ascii {v : Verdict} (h : okV v = true) : ∀ b ∈ (fmtV v).data.toList, b.toNat < 128 := by
  have key : ∀ (n : Int), ∀ b ∈ Go.Lib.itoa n, b.toNat < 128 := fun n b hb => by
    by_cases hn : n < 0
    · rw [itoa_neg hn] at hb
      rcases List.mem_cons.1 hb with rfl | hb
      · decide
      · have := isDg_out (decDigits_dg _ b hb); omega
    · rw [itoa_nn hn] at hb
      have := isDg_out (decDigits_dg _ b hb); omega
  intro b hb
  rw [V_data h, List.mem_append, List.mem_cons, List.mem_append, List.mem_cons] at hb
  rcases hb with hb | hb | hb | hb | hb
  · exact key _ b hb
  · rw [hb]; cases v.same <;> decide
  · exact key _ b hb
  · rw [hb]; decide
  · exact key _ b hb
theorem strings_IndexAny_c (s : ByteArray) (w : World) (hs : s.size ≤ 1048600) :
    Calls Tryd.prog 30 #[.string s, .string ⟨#[61, 33]⟩] w fun e w2 => ∃ i : Int, e = .returned (.int .i64 i) ∧ (-1 ≤ i ∧ i < s.size) ∧ (∀ v, okV v = true → fmtV v = s → i = ((Go.Lib.itoa v.a).length : Int)) ∧ Ext w w2 := by
  have hz : (⟨#[61, 33]⟩ : ByteArray).size = 2 := rfl
  have hl : (⟨#[61, 33]⟩ : ByteArray).data.toList = [61, 33] := rfl
  have hac : ∀ (j : Nat) b, (⟨#[61, 33]⟩ : ByteArray).data.toList[j]? = some b → b.toNat < 128 := fun j b hb => by
    have hm := List.mem_of_getElem? hb
    rw [hl] at hm
    simp only [List.mem_cons, List.not_mem_nil, or_false] at hm
    rcases hm with rfl | rfl <;> decide
  have hlt := indexAny_lt [61, 33] s.data.toList
  have hge := Go.Lib.indexAny_ge [61, 33] s.data.toList
  have e : s.data.toList.length = s.size := Array.length_toList
  rw [e] at hlt
  by_cases h8 : 8 < s.size
  · have h116 : (Tryd.prog.info? (lShIdxA_ren.t 116)).map (fun i => (i.zero, i.size)) = some (some (.agg (Array.replicate 256 (.bool false))), 256) := by kernel_rfl
    refine (Any.strings_IndexAny_long lShIdxA (zero_of_info h116).1 (zero_of_info h116).2 s ⟨#[61, 33]⟩ w (by omega) h8 (by omega) (by omega) hac).mono fun e w2 ⟨h1, h2⟩ => ⟨_, h1, ⟨hge, hlt⟩, fun v q1 q2 => V_idx q1 q2, ?_⟩
    rw [h2]
    exact ((Ext.refl w).alloc _).alloc _
  · by_cases ha : ∀ (j : Nat) b, s.data.toList[j]? = some b → b.toNat < 128
    · refine (Any.strings_IndexAny_short lShIdxA s ⟨#[61, 33]⟩ w (by omega) (by omega) ha).mono fun e w2 ⟨h1, pos, h2⟩ => ⟨_, h1, ⟨hge, hlt⟩, fun v q1 q2 => V_idx q1 q2, ?_⟩
      rw [h2]
      exact (Ext.refl w).alloc _
    · refine (strings_IndexAny_few s w (by omega)).mono fun e w2 ⟨i, h1, h2, h3⟩ => ⟨i, h1, h2, fun v q1 q2 => ?_, h3⟩
      exact absurd (fun j b hb => by subst q2; exact V_ascii q1 b (List.mem_of_getElem? hb)) ha

set_option maxHeartbeats 400000 in
set_option maxRecDepth 20000 in
theorem impl_ParseVerdict (s : ByteArray) (w : World) (hs : s.size ≤ 1048576) (N : Env w) :
    Calls Tryd.prog 14 #[.string s] w fun e w2 => e = .returned (.tuple #[verV (pV s).1, .bool (pV s).2]) ∧ Ext w w2 := by
  go_enter Tryd.func14, Tryd.ntmps14
  go_wp2_with fail
  refine (strings_IndexAny_c s _ (by omega)).mono ?_
  rintro e w1 ⟨i, rfl, hi, hv, x1⟩
  have br : Blk w1 w.heap.size 26 [.int .i64 0, .int .i64 0, .bool false, .int .i64 0] := (Blk.new w 26 #[.int .i64 0, .int .i64 0, .bool false, .int .i64 0]).ext x1
  have xw1 : Ext w w1 := ((Ext.refl w).alloc _).trans x1
  clear x1
  by_cases h0 : i < 0
  · have HP := hid (show pV s = (⟨0, 0, false, 0⟩, false) from ans_no fun v h1 h2 => by have := hv v h1 h2; omega)
    clear hv
    obtain ⟨⟨s0, y0⟩, ⟨s1, y1⟩, ⟨s2, y2⟩, ⟨s3, y3⟩, b9⟩ := Blk.store4 br (.int .i64 0) (.int .i64 0) (.bool false) (.int .i64 0)
    obtain ⟨⟨r0, r1, r2, r3⟩, _⟩ := b9.c4
    have x9 : Ext w ((((w1.setCell ⟨w.heap.size, 0, none⟩ (.int .i64 0)).setCell ⟨w.heap.size, 1, none⟩ (.int .i64 0)).setCell ⟨w.heap.size, 2, none⟩ (.bool false)).setCell ⟨w.heap.size, 3, none⟩ (.int .i64 0)) := (((xw1.setCell (Nat.le_refl _) _).setCell (Nat.le_refl _) _).setCell (Nat.le_refl _) _).setCell (Nat.le_refl _) _
    clear b9
    go_wp2
    refine bodyPost_ret (v := .tuple #[.agg #[.int .i64 0, .int .i64 0, .bool false, .int .i64 0], .bool false]) (by simp [results, Tryd.results14, go_sem, r0, r1, r2, r3]) rfl ?_
    exact ⟨by rw [HP.out]; rfl, x9⟩
  · obtain ⟨n, rfl⟩ : ∃ n : Nat, i = n := ⟨i.toNat, by omega⟩
    have hn : n < s.size := by omega
    have hne : s ≠ ⟨#[]⟩ := fun e => by rw [e] at hn; exact absurd hn (Nat.not_lt_zero n)
    obtain ⟨x, hx⟩ : ∃ x : UInt8, s[n]'hn = x := ⟨_, rfl⟩
    have hxl : s.data.toList[n]? = some x := by rw [← hx]; exact Go.Lib.data_getElem? s n hn
    have HA := hid (pV_A3 (s := s) (i := n) (x := x) (fun v h1 h2 => by have := hv v h1 h2; omega) hxl)
    have hxn := x.toNat_lt
    clear hv h0 hi hxl
    have hz1 : (s.extract (n + 1) s.size).size ≤ 1048600 := by rw [ByteArray.size_extract]; omega
    have hz0 : (s.extract 0 n).size ≤ 1048600 := by rw [ByteArray.size_extract]; omega
    have hd1 := Go.Lib.extract_to_end s (n + 1)
    have HD0 := hid (show s.extract 0 n = bs (s.data.toList.take n) by rw [Go.Lib.extract_eq, List.drop_zero, Nat.sub_zero]; rfl)
    go_wp2_with fail
    refine (strings_Cut_c (s.extract (n + 1) s.size) 64 _ hz1 (N.M.mono xw1)).mono ?_
    rintro e w2 ⟨rfl, x2⟩
    rw [hd1]
    have hq1 : (bs (Go.Lib.cut (s.data.toList.drop (n + 1)) [64]).1).size ≤ 1048600 := by
      have := Lib_cut_le (s.data.toList.drop (n + 1)) 64
      rw [bs_size]
      have e : s.data.toList.length = s.size := Array.length_toList
      rw [List.length_drop] at this; omega
    have hq2 : (bs (Go.Lib.cut (s.data.toList.drop (n + 1)) [64]).2.1).size ≤ 1048600 := by
      have := Lib_cut_le (s.data.toList.drop (n + 1)) 64
      rw [bs_size]
      have e : s.data.toList.length = s.size := Array.length_toList
      rw [List.length_drop] at this; omega
    obtain ⟨p1, hp1⟩ : ∃ p, p = bs (Go.Lib.cut (s.data.toList.drop (n + 1)) [64]).1 := ⟨_, rfl⟩
    obtain ⟨p2, hp2⟩ : ∃ p, p = bs (Go.Lib.cut (s.data.toList.drop (n + 1)) [64]).2.1 := ⟨_, rfl⟩
    rw [← hp1] at hq1 HA ⊢
    rw [← hp2] at hq2 HA ⊢
    rw [← HD0.out, u8_61 x] at HA
    clear hp1 hp2 hd1 hz1 HD0
    have br2 := br.ext x2
    have xw2 := xw1.trans x2
    clear br xw1 x2
    go_wp2_with fail
    have hbl := Blk.new w2 9 #[.string (s.extract 0 n), .string p1, .string p2]
    have hos := (OwnSl.of_blk (R := strO) (xs := [(s.extract 0 n), p1, p2]) hbl (by show 3 ≤ maxLen; decide) (strs_cells _ [(s.extract 0 n), p1, p2] (by
      have hml : (1048600 : Nat) ≤ maxLen := by decide
      intro y hy
      simp only [List.mem_cons, List.not_mem_nil, or_false] at hy
      rcases hy with rfl | rfl | rfl <;> omega))).sl
    have xa := xw2.alloc (.cells #[.string (s.extract 0 n), .string p1, .string p2] 9)
    refine (impl_parseInts _ [(s.extract 0 n), p1, p2] _ hos (by show 3 ≤ 1048600; decide) (by
      intro y hy
      simp only [List.mem_cons, List.not_mem_nil, or_false] at hy
      rcases hy with rfl | rfl | rfl <;> assumption) (N.mono xa)).mono ?_
    rintro e w3 ⟨u, F, rfl, o3, n3, x3⟩
    have br3 := br2.ext (((Ext.refl w2).alloc _).trans x3)
    have xw3 := xa.trans x3
    clear br2 hbl hos xa x3
    cases hp : (pIs [(s.extract 0 n), p1, p2]).2 with
    | false =>
      have HP := hid (show pV s = (⟨0, 0, false, 0⟩, false) from ans_no fun v h1 h2 => by
        obtain ⟨_, f0, f1, f2⟩ := HA.out v h1 h2
        rw [pIs_yes (by intro y hy; simp only [List.mem_cons, List.not_mem_nil, or_false] at hy; rcases hy with rfl | rfl | rfl <;> assumption)] at hp
        cases hp)
      obtain ⟨A3, c3, e3, _⟩ := o3.form
      subst e3
      obtain ⟨⟨s0, y0⟩, ⟨s1, y1⟩, ⟨s2, y2⟩, ⟨s3, y3⟩, b9⟩ := Blk.store4 br3 (.int .i64 0) (.int .i64 0) (.bool false) (.int .i64 0)
      obtain ⟨⟨r0, r1, r2, r3⟩, _⟩ := b9.c4
      have x9 : Ext w ((((w3.setCell ⟨w.heap.size, 0, none⟩ (.int .i64 0)).setCell ⟨w.heap.size, 1, none⟩ (.int .i64 0)).setCell ⟨w.heap.size, 2, none⟩ (.bool false)).setCell ⟨w.heap.size, 3, none⟩ (.int .i64 0)) := (((xw3.setCell (Nat.le_refl _) _).setCell (Nat.le_refl _) _).setCell (Nat.le_refl _) _).setCell (Nat.le_refl _) _
      clear b9
      go_wp2
      refine bodyPost_ret (v := .tuple #[.agg #[.int .i64 0, .int .i64 0, .bool false, .int .i64 0], .bool false]) (by simp [results, Tryd.results14, go_sem, r0, r1, r2, r3]) rfl ?_
      exact ⟨by rw [HP.out]; rfl, x9⟩
    | true =>
      have e1 : (pIs [(s.extract 0 n), p1, p2]).1 = [(pI (s.extract 0 n)).1, (pI p1).1, (pI p2).1] := by
        have := pIs_true hp
        rw [this]; rfl
      rw [e1] at o3
      clear e1 hp
      obtain ⟨A3, c3, e3, _⟩ := o3.form
      subst e3
      obtain ⟨g, off, rfl, i0, d0⟩ := o3.sl.int (i := 0) (by simp)
      obtain ⟨g', off', e', i1, d1⟩ := o3.sl.int (i := 1) (by simp)
      injection e' with e'
      injection e' with ea eb _
      subst ea; subst eb
      obtain ⟨g', off', e', i2, d2⟩ := o3.sl.int (i := 2) (by simp)
      injection e' with e'
      injection e' with ea eb _
      subst ea; subst eb
      simp only [Nat.add_zero] at d0
      have HI := hid (And.intro i0 (And.intro i1 i2))
      have HK := hid (show ∀ W, Ext w3 W → W.cell? ⟨g, off, none⟩ = some (.int .i64 (pI (s.extract 0 n)).1) ∧ W.cell? ⟨g, off + 1, none⟩ = some (.int .i64 (pI p1).1) ∧ W.cell? ⟨g, off + 2, none⟩ = some (.int .i64 (pI p2).1) from fun W y => ⟨y.cell d0, y.cell d1, y.cell d2⟩)
      clear i0 i1 i2 d0 d1 d2 o3
      go_wp2_with fail
      go_region_held3 (fun w' => w'.cell? ⟨g, off, none⟩ = some (.int .i64 (pI (s.extract 0 n)).1) ∧ w'.cell? ⟨g, off + 1, none⟩ = some (.int .i64 (pI p1).1) ∧ w'.cell? ⟨g, off + 2, none⟩ = some (.int .i64 (pI p2).1)) (exact HK.out _ (by repeat (first | with_reducible exact Ext.refl _ | with_reducible assumption | with_reducible refine Ext.drew ?_ | with_reducible refine Ext.alloc ?_ _ | with_reducible refine Ext.trans ?_ (by with_reducible assumption)))) (fail)
      all_goals
        have hb4 := Blk.new w3 26 #[.int .i64 (pI (s.extract 0 n)).1, .int .i64 (pI p1).1, .bool ((x.toNat : Int) == 61), .int .i64 (pI p2).1]
        have x34 : Ext w3 (w3.alloc (.cells #[.int .i64 (pI (s.extract 0 n)).1, .int .i64 (pI p1).1, .bool ((x.toNat : Int) == 61), .int .i64 (pI p2).1] 26)).drew := ((Ext.refl w3).alloc _).drew
        have hb4d := hb4.ext ((Ext.refl _).drew)
        have xw4 := xw3.trans x34
        obtain ⟨⟨k0, k1, k2, k3⟩, _⟩ := Blk.c4 hb4d
        go_wp2_with fail
        refine (impl_FormatVerdict _ _ _ _ _ (N.T.mono xw4)).mono ?_
        rintro e w5 ⟨rfl, x5⟩
        have hb5 := hb4d.ext x5
        have br5 := br3.ext (x34.trans x5)
        have xw5 := xw4.trans x5
        clear k0 k1 k2 k3 hb4 hb4d x34 x5 br3 xw4
        obtain ⟨⟨k0, k1, k2, k3⟩, _⟩ := Blk.c4 hb5
        by_cases hq : fmtV ⟨(pI (s.extract 0 n)).1, (pI p1).1, ((x.toNat : Int) == 61), (pI p2).1⟩ = s
        · have hq1 := str_eq hq
          have hq2 : (fmtV ⟨(pI (s.extract 0 n)).1, (pI p1).1, ((x.toNat : Int) == 61), (pI p2).1⟩).toList = s.toList := by rw [hq]
          have HP := hid (show pV s = (⟨(pI (s.extract 0 n)).1, (pI p1).1, ((x.toNat : Int) == 61), (pI p2).1⟩, true) from ans_yes (fun v h1 h2 => (HA.out v h1 h2).1) (fmtV_ok hq hne) hq)
          clear hq hb5
          obtain ⟨⟨s0, y0⟩, ⟨s1, y1⟩, ⟨s2, y2⟩, ⟨s3, y3⟩, b9⟩ := Blk.store4 br5 (.int .i64 (pI (s.extract 0 n)).1) (.int .i64 (pI p1).1) (.bool ((x.toNat : Int) == 61)) (.int .i64 (pI p2).1)
          obtain ⟨⟨r0, r1, r2, r3⟩, _⟩ := b9.c4
          have x9 : Ext w ((((w5.setCell ⟨w.heap.size, 0, none⟩ (.int .i64 (pI (s.extract 0 n)).1)).setCell ⟨w.heap.size, 1, none⟩ (.int .i64 (pI p1).1)).setCell ⟨w.heap.size, 2, none⟩ (.bool ((x.toNat : Int) == 61))).setCell ⟨w.heap.size, 3, none⟩ (.int .i64 (pI p2).1)) := (((xw5.setCell (Nat.le_refl _) _).setCell (Nat.le_refl _) _).setCell (Nat.le_refl _) _).setCell (Nat.le_refl _) _
          clear b9
          go_wp2
          refine bodyPost_ret (v := .tuple #[.agg #[.int .i64 (pI (s.extract 0 n)).1, .int .i64 (pI p1).1, .bool ((x.toNat : Int) == 61), .int .i64 (pI p2).1], .bool true]) (by simp [results, Tryd.results14, go_sem, r0, r1, r2, r3]) rfl ?_
          exact ⟨by rw [HP.out]; rfl, x9⟩
        · have hq1 := str_ne hq
          have HP := hid (show pV s = (⟨0, 0, false, 0⟩, false) from ans_end (fun v h1 h2 => (HA.out v h1 h2).1) hq)
          clear hq hb5
          obtain ⟨⟨s0, y0⟩, ⟨s1, y1⟩, ⟨s2, y2⟩, ⟨s3, y3⟩, b9⟩ := Blk.store4 br5 (.int .i64 0) (.int .i64 0) (.bool false) (.int .i64 0)
          obtain ⟨⟨r0, r1, r2, r3⟩, _⟩ := b9.c4
          have x9 : Ext w ((((w5.setCell ⟨w.heap.size, 0, none⟩ (.int .i64 0)).setCell ⟨w.heap.size, 1, none⟩ (.int .i64 0)).setCell ⟨w.heap.size, 2, none⟩ (.bool false)).setCell ⟨w.heap.size, 3, none⟩ (.int .i64 0)) := (((xw5.setCell (Nat.le_refl _) _).setCell (Nat.le_refl _) _).setCell (Nat.le_refl _) _).setCell (Nat.le_refl _) _
          clear b9
          go_wp2
          refine bodyPost_ret (v := .tuple #[.agg #[.int .i64 0, .int .i64 0, .bool false, .int .i64 0], .bool false]) (by simp [results, Tryd.results14, go_sem, r0, r1, r2, r3]) rfl ?_
          exact ⟨by rw [HP.out]; rfl, x9⟩

end Go.Proofs.YtblggajfdhjmjaaDoor
