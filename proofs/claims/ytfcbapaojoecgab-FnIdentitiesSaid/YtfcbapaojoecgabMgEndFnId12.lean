/-
  SEVERAL SMALL TEXTS LAID TOGETHER: VerS, BestC, DrawK, BestJ.
-/
import Derived.Test.YtfcbapaojoecgabMgEndFnId7
import Derived.Test.YtfcbapaojoecgabMgEndFnId6
import Derived.Test.YtfcbapaojoecgabMgEndFnId0

namespace Go.Proofs.Ytfcbapaojoecgab
open Go.RowKit
def verZ : List Value := [.int .i64 0, .int .i64 0, .bool false, .int .i64 0]
end Go.Proofs.Ytfcbapaojoecgab

namespace Go.Proofs.Ytfcbapaojoecgab
open Go.RowKit

set_option maxHeartbeats 400000 in
set_option maxRecDepth 20000 in
theorem impl_best_1 (j k s : Nat) (br bt bw bi g off n cap1 cap2 : Nat) (A1 : Option Addr) (r : List Int) (f : Nat → Nat → Int) (F : List Nat) (w : World)
    (h1 : w.cell? ⟨br, 0, none⟩ = some (.slice A1 r.length cap1)) (h2 : w.cell? ⟨bt, 0, none⟩ = some (.int .i64 s)) (h3 : w.cell? ⟨bw, 0, none⟩ = some (.slice (some ⟨g, off, none⟩) (n + 1) cap2)) (h4 : w.cell? ⟨bi, 0, none⟩ = some (.int .i64 k))
    (hr : Sl intR w (.slice A1 r.length cap1) r) (hT : OwnSl (slO intO) w (.slice (some ⟨g, off, none⟩) (n + 1) cap2) (tab (n + 1) 256 f) F) (hN : F.Nodup) (hj : j < r.length) (hj8 : j < 8) (hs : s < 256) (hk : k < n) (hn : n ≤ 8)
    (hx : 0 ≤ r[j] ∧ r[j] ≤ 100) (hf : ∀ t < 256, 0 ≤ f (k + 1) t ∧ f (k + 1) t ≤ 800) :
    Calls Try.prog 77 #[.int .i64 j, .pointer (some ⟨br, 0, none⟩), .pointer (some ⟨bt, 0, none⟩), .pointer (some ⟨bw, 0, none⟩), .pointer (some ⟨bi, 0, none⟩)] w fun e w2 =>
      e = .returned (.bool (decide (0 < r[j]) && !s.testBit j && decide (r[j] + f (k + 1) (s ||| 1 <<< j) = f k s))) ∧ Ext w w2 := by
  have hbt := bit_test (s := s) (c := j) (by omega)
  have hls : s ||| 1 <<< j < 256 := bit_set_lt (n := 8) hs hj8
  have hor := bit_setw (s := s) (c := j) (by omega) (by omega)
  obtain ⟨t, ht⟩ : ∃ t, t = s ||| 1 <<< j := ⟨_, rfl⟩
  rw [← ht] at hls hor ⊢
  clear ht
  obtain ⟨b2, off2, rfl, hi2, hc2⟩ := hr.int hj
  obtain ⟨b3, o3, c3, hc3, _, _, hc4, _, _⟩ := tab_at hT hN (show k + 1 < n + 1 by omega) hls
  obtain ⟨b4, o4, c4, hc5, _, _, hc6, _, _⟩ := tab_at hT hN (show k < n + 1 by omega) hs
  have hz1 : ∀ z : ExtOf w, z.1.cell? ⟨br, 0, none⟩ = _ := fun z => z.2.cell h1
  have hz2 : ∀ z : ExtOf w, z.1.cell? ⟨bt, 0, none⟩ = _ := fun z => z.2.cell h2
  have hz3 : ∀ z : ExtOf w, z.1.cell? ⟨bw, 0, none⟩ = _ := fun z => z.2.cell h3
  have hz4 : ∀ z : ExtOf w, z.1.cell? ⟨bi, 0, none⟩ = _ := fun z => z.2.cell h4
  have hcz2 : ∀ z : ExtOf w, z.1.cell? ⟨b2, off2 + j, none⟩ = _ := fun z => z.2.cell hc2
  have hcz3 : ∀ z : ExtOf w, z.1.cell? ⟨g, off + (k + 1), none⟩ = _ := fun z => z.2.cell hc3
  have hcz4 : ∀ z : ExtOf w, z.1.cell? ⟨b3, o3 + t, none⟩ = _ := fun z => z.2.cell hc4
  have hcz5 : ∀ z : ExtOf w, z.1.cell? ⟨g, off + k, none⟩ = _ := fun z => z.2.cell hc5
  have hcz6 : ∀ z : ExtOf w, z.1.cell? ⟨b4, o4 + s, none⟩ = _ := fun z => z.2.cell hc6
  have hft := hf t hls
  have hl63 : r.length ≤ 9223372036854775807 := by
    obtain ⟨_, _, _, h9⟩ := hr.form
    exact h9
  clear hf hT hr h1 h2 h3 h4 hc2 hc3 hc4 hc5 hc6
  by_cases hv : 0 < r[j]
  · cases hbit : s.testBit j with
    | true =>
      rw [hbit, Bool.not_true] at hbt
      have HV := hid hbit
      clear hbit
      go_enter Try.func77, Try.ntmps77
      go_wp2_with fail
      refine wp_region_ext (by kernel_rfl) (by kernel_rfl) ?_
      repeat (go_big_quiet_step ((fail)))
      refine wpQuiet_nil ?_
      rintro w2 ⟨⟨_, x2⟩, rfl⟩
      go_wp2
      go_ret
      exact ⟨by simp, x2⟩
    | false =>
      rw [hbit, Bool.not_false] at hbt
      have HV := hid hbit
      clear hbit
      by_cases hsum : r[j] + f (k + 1) t = f k s
      · have hsb2 : (r[j] + f (k + 1) t == f k s) = true := by simp [hsum]
        have HSU := hid hsum
        clear hsum
        go_enter Try.func77, Try.ntmps77
        go_wp2_with fail
        refine wp_region_ext (by kernel_rfl) (by kernel_rfl) ?_
        repeat (go_big_quiet_step ((fail)))
        refine wpQuiet_nil ?_
        rintro w2 ⟨⟨_, x2⟩, rfl⟩
        go_wp2
        go_ret
        exact ⟨ret_bool (by rw [decide_eq_true hv, decide_eq_true HSU.out]; rfl), x2⟩
      · have hsb2 : (r[j] + f (k + 1) t == f k s) = false := by simp [hsum]
        have HSU := hid hsum
        clear hsum
        go_enter Try.func77, Try.ntmps77
        go_wp2_with fail
        refine wp_region_ext (by kernel_rfl) (by kernel_rfl) ?_
        repeat (go_big_quiet_step ((fail)))
        refine wpQuiet_nil ?_
        rintro w2 ⟨⟨_, x2⟩, rfl⟩
        go_wp2
        go_ret
        exact ⟨ret_bool (by rw [decide_eq_false HSU.out]; simp), x2⟩
  · have hvd : decide (0 < r[j]) = false := by simpa using hv
    have hv9 := hid hv
    clear hv
    go_enter Try.func77, Try.ntmps77
    go_wp2_with fail
    refine wp_region_ext (by kernel_rfl) (by kernel_rfl) ?_
    repeat (go_big_quiet_step ((fail)))
    refine wpQuiet_nil ?_
    rintro w2 ⟨⟨_, x2⟩, rfl⟩
    go_wp2
    go_ret
    exact ⟨ret_bool (by rw [hvd]; rfl), x2⟩
end Go.Proofs.Ytfcbapaojoecgab

namespace Go.Proofs.Ytfcbapaojoecgab
open Go.RowKit

theorem Kept.alloc {g : Nat} {w w2 : World} (h : Kept g w w2) (o : Obj) : Kept g w (w2.alloc o) := h.trans (Ext.kept ((Ext.refl _).alloc _))
theorem Kept.drew {g : Nat} {w w2 : World} (h : Kept g w w2) : Kept g w w2.drew := h.trans (Ext.kept (Ext.refl _).drew)
theorem Kept.setN {g : Nat} {w w2 : World} (h : Kept g w w2) {p : Addr} (hp : w.heap.size ≤ p.block) (u : Value) : Kept g w (w2.setCell p u) :=
  ⟨by rw [World.size_setCell]; exact h.1, fun b hb hne => (keep_setCell (fun e => by omega)).trans (h.2 b hb hne)⟩
theorem Cur.setN {w0 w : World} {g : Nat} (h : Cur w0 w g) {p : Addr} (hp : g < p.block) (u : Value) : Cur w0 (w.setCell p u) g :=
  h.keep (h.base.1.setCell (by have := h.base.2.1; omega) u) (keep_setCell (by omega))
theorem Blk.kept {w w2 : World} {b g : Nat} {e : TypeId} {cs : List Value} (h : Blk w b e cs) (hne : b ≠ g) (k : Kept g w w2) : Blk w2 b e cs := h.keep (k.2 b (block_lt h) hne)
theorem Cur.alloc {w0 w : World} {g : Nat} (h : Cur w0 w g) (o : Obj) : Cur w0 (w.alloc o) g := h.ext ((Ext.refl w).alloc o)
theorem Cur.drew {w0 w : World} {g : Nat} (h : Cur w0 w g) : Cur w0 w.drew g := h.ext (Ext.refl w).drew
/-- a verdict that was drawn -/
def VerDrawn (w0 w : World) (g : Nat) (e : Ending) (w2 : World) : Prop := ∃ v : Verdict, e = .returned (.agg #[.int .i64 v.a, .int .i64 v.b, .bool v.same, .int .i64 v.time]) ∧ v.ok ∧ Cur w0 w2 g ∧ Kept g w w2

end Go.Proofs.Ytfcbapaojoecgab

namespace Go.Proofs.Ytfcbapaojoecgab
open Go.RowKit

theorem lt_of_same {a c : World} {b : Nat} (h : a.heap[b]? = c.heap[b]?) (hc : b < c.heap.size) : b < a.heap.size := by
  rcases Nat.lt_or_ge b a.heap.size with h1 | h1
  · exact h1
  · rw [Array.getElem?_eq_none h1] at h
    have := Array.getElem?_eq_none_iff.1 h.symm
    omega
theorem Bld.keepOwn {α : Type} {R : RepO α} {w w2 : World} {base : Nat} {e : TypeId} {v : Value} {xs : List α} {F : List Nat} (h : Bld R w base e v xs F) (hF : ∀ b ∈ F, w2.heap[b]? = w.heap[b]?) (hv : ∀ g, v.ownBlock = some g → w2.heap[g]? = w.heap[g]?) : Bld R w2 base e v xs F := by
  obtain ⟨cs, h1, h2, h3, h4, h5⟩ := h
  refine ⟨cs, ⟨h1.1, ?_⟩, h2.keep hF, h3, h4, h5⟩
  rcases h1.2 with h | ⟨g', cap, cur, rfl, hb, hh, hr⟩
  · exact .inl h
  · exact .inr ⟨g', cap, cur, rfl, hb, (hv g' rfl).trans hh, hr⟩

set_option maxHeartbeats 400000 in
set_option maxRecDepth 20000 in
theorem impl_bestAssignment (v : Value) (m : List (List Int)) (w : World) (h : Sl (slR intR) w v m) (hok : okMat m = true) :
    Calls Try.prog 42 #[v] w fun e w2 => ∃ v2 F, e = .returned v2 ∧ OwnSl intO w2 v2 (asgFrom m 0) F ∧ NewF w F ∧ Ext w w2 := by
  obtain ⟨A, cap, rfl, hm⟩ := h.form
  have hm8 := okMat_len hok
  have HM := hid hok
  go_enter Try.func42, Try.ntmps42
  go_wp2_with fail
  refine (impl_bestValues _ m _ h hok).mono ?_
  rintro e w1 ⟨g, off, cap2, f, F, rfl, hT, hf, hNF, x1⟩
  clear hok
  have HF := hid hf
  clear hf
  go_wp2
  go_loopw [5, 13] (fun out i wr => ∃ (k s : Nat) (done : List Int), k ≤ m.length ∧ i = .int .i64 k ∧ s < 256 ∧ asgFrom m 0 = done ++ asgFrom (m.drop k) s ∧ done.length = k ∧ Bld intO wr w.heap.size 3 out done [] ∧ Ext w wr ∧
    OwnSl (slO intO) wr (.slice (some ⟨g, off, none⟩) (m.length + 1) cap2) (tab (m.length + 1) 256 f) F ∧ wr.cell? ⟨w1.heap.size, 0, none⟩ = some (.slice (some ⟨g, off, none⟩) (m.length + 1) cap2) ∧ Blk wr (w1.heap.size + 1) 3 [.int .i64 s] ∧
    ∀ b ∈ w1.heap.size :: (w1.heap.size + 1) :: F, b < wr.heap.size ∧ out.ownBlock ≠ some b) (fun _ i _ => m.length - (intOf i).toNat)
  case atStart =>
    have y1 : Ext w1 (w1.alloc (.cells #[.slice (some ⟨g, off, none⟩) (m.length + 1) cap2] 23)) := (Ext.refl _).alloc _
    have y2 : Ext (w1.alloc (.cells #[.slice (some ⟨g, off, none⟩) (m.length + 1) cap2] 23)) ((w1.alloc (.cells #[.slice (some ⟨g, off, none⟩) (m.length + 1) cap2] 23)).alloc (.cells #[.int .i64 0] 3)) := (Ext.refl _).alloc _
    refine ⟨0, 0, [], Nat.zero_le _, rfl, by decide, rfl, rfl, Bld.nil _ _ _, (x1.trans y1).trans y2, (hT.ext y1).ext y2, y2.cell (by have := (Ext.refl (w1.alloc (.cells #[.slice (some ⟨g, off, none⟩) (m.length + 1) cap2] 23))).box.1 0; exact this), ?_, fun b hb => ⟨?_, fun e => by cases e⟩⟩
    · have := Blk.new (w1.alloc (.cells #[.slice (some ⟨g, off, none⟩) (m.length + 1) cap2] 23)) 3 #[.int .i64 0]
      rw [World.size_alloc] at this
      exact this
    · rw [World.size_alloc, World.size_alloc]
      rcases List.mem_cons.1 hb with rfl | hb
      · omega
      · rcases List.mem_cons.1 hb with rfl | hb
        · omega
        · have := hT.lt b hb; omega
  case round =>
    obtain ⟨k, s, done, hk, rfl, hs, hd, hdl, hB, hx, hT2, hcv, hct, hK⟩ := hrel
    have HD := hid hd
    have HDL := hid hdl
    clear hd hdl
    by_cases hlt : k < m.length
    · obtain ⟨b1, off1, A1, cap1, rfl, hs1, hc10⟩ := h.sl hlt
      have hc1 := hx.cell hc10
      have HB := hid (okMat_at HM.out hlt)
      have hlk8 : m[k].length ≤ 8 := HB.out.2.1
      go_wp2_with fail
      refine (impl_allItems m[k].length _ (by omega)).mono ?_
      rintro e w5 ⟨v5, F5, rfl, o5, n5, x5⟩
      go_wp2_with fail
      have hFl : ∀ b ∈ F, b < w1.heap.size := hT.lt
      have y0 : Ext wr w5 := (((Ext.refl wr).alloc _).alloc _).trans x5
      have hbr := x5.box1.1 0
      have hbi := (((Ext.refl (wr.alloc _)).alloc _).trans x5).box.1 0
      obtain ⟨p, hp⟩ : ∃ p : Int → Bool, p = fun x => pickP m[k] (bv (m.drop (k + 1))) (bv (m[k] :: m.drop (k + 1)) s) s x.toNat := ⟨_, rfl⟩
      have hidx : idxF p 0 (upTo m[k].length) = pickOf m[k] (m.drop (k + 1)) s := by
        rw [hp]
        exact idxF_upTo _ _ _ fun j _ => rfl
      have hcur : f k s = bv (m[k] :: m.drop (k + 1)) s := by rw [HF.out k (by omega) s hs, bv_cons m k hlt]
      refine (IndexFunc_int _ (upTo m[k].length) p 77 _ w5 o5.sl (fun _ _ => by kernel_rfl) ?hfun).mono ?_
      case hfun =>
        intro wz xz x hxm
        obtain ⟨j, hj, rfl⟩ := List.mem_map.1 hxm
        have hjl : j < m[k].length := List.mem_range.1 hj
        have y9 := y0.trans xz
        refine (impl_best_1 j k s (wr.heap.size + 1) (w1.heap.size + 1) w1.heap.size wr.heap.size g off m.length cap1 cap2 A1 m[k] f F wz (xz.cell hbr) (y9.cell (by have := hct.cells.1 0; simpa using this)) (y9.cell hcv) (xz.cell hbi) (hs1.mono (hx.trans y9)) (hT2.ext y9) hNF.1 hjl (by omega) hs hlt hm8 (HB.out.2.2 _ (List.getElem_mem hjl))
          (fun t ht => by rw [HF.out (k + 1) (by omega) t ht]; have := bv_bd (m.drop (k + 1)) t (fun r hr => (okMat_mem HM.out (List.mem_of_mem_drop hr))); have := List.length_drop (i := k + 1) (l := m); omega)).mono ?_
        rintro e w9 ⟨rfl, x9⟩
        refine ⟨ret_bool ?_, x9⟩
        have hls : s ||| 1 <<< j < 256 := bit_set_lt (n := 8) hs (by omega)
        rw [hp, hcur, HF.out (k + 1) (by omega) _ hls]
        show _ = pickP _ _ _ _ ((j : Int)).toNat
        rw [Int.toNat_natCast, pickP, getD_at hjl]
      rintro e w6 ⟨rfl, x6⟩
      rw [hidx]
      have hbd := ff_bd (pickP m[k] (bv (m.drop (k + 1))) (bv (m[k] :: m.drop (k + 1)) s) s) m[k].length 0
      have hdr : asgFrom (m.drop k) s = pickOf m[k] (m.drop (k + 1)) s :: asgFrom (m.drop (k + 1)) (takeBit s (pickOf m[k] (m.drop (k + 1)) s)) := by rw [List.drop_eq_getElem_cons hlt, asgFrom]
      have hpk : ff (pickP m[k] (bv (m.drop (k + 1))) (bv (m[k] :: m.drop (k + 1)) s) s) 0 m[k].length = pickOf m[k] (m.drop (k + 1)) s := rfl
      rw [hpk, Nat.zero_add] at hbd
      obtain ⟨c, hc⟩ : ∃ c, c = pickOf m[k] (m.drop (k + 1)) s := ⟨_, rfl⟩
      rw [← hc] at hbd hdr ⊢
      have htb := takeBit_lt (t := s) (n := 8) (c := c) hs (by omega)
      have HTB := hid htb
      have HDR := hid hdr
      have hI : I64 c := by unfold I64; omega
      have hdn : done.length ≤ 8 := by have := HDL.out; omega
      have y6 := y0.trans x6
      have hct6 := hct.ext y6
      have hT6 := hT2.ext y6
      have hcv6 := y6.cell hcv
      have hB6 := hB.ext y6
      have hK6 : ∀ b ∈ w1.heap.size :: (w1.heap.size + 1) :: F, b < w6.heap.size := fun b hb => Nat.lt_of_lt_of_le (hK b hb).1 y6.size
      clear hc hdr hpk htb hidx hbr hbi hcur hc1 hc10 hp hct hT2 hcv hB
      by_cases hc0 : 0 ≤ c
      · obtain ⟨q, rfl⟩ : ∃ q : Nat, c = (q : Int) := ⟨c.toNat, by omega⟩
        have hor := bit_setw (s := s) (c := q) (by omega) (by omega)
        have htk : takeBit s (q : Int) = s ||| 1 <<< q := by unfold takeBit; rw [if_pos (by omega)]; rfl
        rw [← htk] at hor
        have HTK := hid htk
        clear htk
        obtain ⟨t, ht⟩ : ∃ t, t = takeBit s (q : Int) := ⟨_, rfl⟩
        rw [← ht] at hor
        have HT := hid ht
        clear ht
        obtain ⟨wd, hwd⟩ : ∃ wd : World, wd = w6.drew := ⟨_, rfl⟩
        have xd : Ext w6 wd := by rw [hwd]; exact (Ext.refl _).drew
        have HW := hid hwd
        clear hwd
        have hctd := hct6.ext xd
        have hcell := hctd.cells.1 0
        have hfr := hctd.cells.2 0
        have hst := Blk.store (done := []) (rest := []) hctd rfl (.int .i64 t)
        have hB7 := (hB6.ext xd).keepOwn (w2 := wd.setCell ⟨w1.heap.size + 1, 0, none⟩ (.int .i64 t)) (fun b hb => by cases hb) (fun g9 hg9 => keep_setCell (fun e => (hK (w1.heap.size + 1) (by simp)).2 (by rw [hg9, e])))
        have hT7 := (hT6.ext xd).setCell (p := ⟨w1.heap.size + 1, 0, none⟩) (fun hm9 => by have hm9 : w1.heap.size + 1 ∈ F := hm9; have := hFl _ hm9; omega) (.int .i64 t)
        have hcv7 : (wd.setCell ⟨w1.heap.size + 1, 0, none⟩ (.int .i64 t)).cell? ⟨w1.heap.size, 0, none⟩ = some (.slice (some ⟨g, off, none⟩) (m.length + 1) cap2) := by
          rw [World.cell?_setCell_other wd _ _ _ (fun e => by injection e; omega)]; exact xd.cell hcv6
        have hx7 : Ext w (wd.setCell ⟨w1.heap.size + 1, 0, none⟩ (.int .i64 t)) := ((hx.trans y6).trans xd).setCell (by have := x1.size; show w.heap.size ≤ w1.heap.size + 1; omega) _
        have hsz7 : (wd.setCell ⟨w1.heap.size + 1, 0, none⟩ (.int .i64 t)).heap.size = wd.heap.size := World.size_setCell _ _ _
        have HS7 := hid hst
        have HC7 := hid hcv7
        have HZ7 := hid hsz7
        clear hst hcv7 hsz7
        go_wp2_with fail
        refine wp_region_tail 4 HW.out (by kernel_rfl) (by kernel_rfl) ?_
        simp only [List.take_succ_cons, List.take_zero, List.drop_succ_cons, List.drop_zero]
        repeat (first | go_big_quiet_step ((fail)) | (go_big_quiet_want; go_big_quiet_op; apply Exists.intro; refine ⟨?_, ?_⟩; (fail); go_big_quiet_on))
        refine wpQuiet_nil ?_
        go_wp2_with (at_builtin; refine wpList_app1k elemInt (by decide) rfl _ _ rfl hB7 rfl wd.heap.size 1 rfl HZ7.out.symm (one_int _) (own_int _ _ hI) fresh_nil (by omega) (by decide) hx7.size ?_; intro v2 w8 hB3 hE3 hK3)
        have hKK := hK3 (w1.heap.size :: (w1.heap.size + 1) :: F) (fun b hb => by rw [HZ7.out]; exact Nat.lt_of_lt_of_le (hK6 b hb) xd.size) (fun b hb => (hK b hb).2)
        have hx8 := hE3 w (Nat.le_refl _) hx7
        go_roundw
        case rel => exact ⟨k + 1, t, done ++ [(q : Int)], by omega, by go_num, by rw [HT.out]; exact HTB.out, by rw [HD.out, HDR.out, HT.out, List.append_assoc]; rfl, by rw [List.length_append, HDL.out]; rfl, hB3, hx8, hT7.keep (fun b hb => hKK.1 b (by simp [hb])),
          (World.cell?_of_block (hKK.1 _ (by simp))).trans HC7.out, HS7.out.keep (hKK.1 _ (by simp)), fun b hb => ⟨lt_of_same (hKK.1 b hb) (by rw [HZ7.out]; exact Nat.lt_of_lt_of_le (hK6 b hb) xd.size), hKK.2 b hb⟩⟩
        case measure => simp [intOf]; omega
      · have htk : takeBit s c = s := by unfold takeBit; rw [if_neg hc0]
        have HTK := hid htk
        clear htk
        go_wp2_with (at_builtin; refine wpList_app1k elemInt (by decide) rfl _ _ rfl hB6 rfl w6.heap.size 1 rfl rfl (one_int _) (own_int _ _ hI) fresh_nil (by omega) (by decide) (hx.trans y6).size ?_; intro v2 w8 hB3 hE3 hK3)
        have hKK := hK3 (w1.heap.size :: (w1.heap.size + 1) :: F) hK6 (fun b hb => (hK b hb).2)
        have hx8 := hE3 w (Nat.le_refl _) (hx.trans y6)
        go_roundw
        case rel => exact ⟨k + 1, s, done ++ [c], by omega, by go_num, hs, by rw [HD.out, HDR.out, HTK.out, List.append_assoc]; rfl, by rw [List.length_append, HDL.out]; rfl, hB3, hx8, hT6.keep (fun b hb => hKK.1 b (by simp [hb])),
          (World.cell?_of_block (hKK.1 _ (by simp))).trans hcv6, hct6.keep (hKK.1 _ (by simp)), fun b hb => ⟨lt_of_same (hKK.1 b hb) (hK6 b hb), hKK.2 b hb⟩⟩
        case measure => simp [intOf]; omega
    · go_wp2
      go_ret
      obtain ⟨F', d1, d2, d3⟩ := hB.done
      refine ⟨_, F', rfl, ?_, ⟨d2, d3⟩, hx⟩
      rw [HD.out, List.drop_of_length_le (by omega), asgFrom, List.append_nil]
      exact d1
end Go.Proofs.Ytfcbapaojoecgab
