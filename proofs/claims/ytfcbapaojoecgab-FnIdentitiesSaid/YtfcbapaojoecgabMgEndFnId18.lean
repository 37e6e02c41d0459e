/-
  WALKS: the drawing of groups: l26Some.
-/
import Derived.Test.YtfcbapaojoecgabMgEndFnId6
import Derived.Test.YtfcbapaojoecgabMgEndFnId12
import Derived.Test.YtfcbapaojoecgabMgEndFnId13

namespace Go.Proofs.Ytfcbapaojoecgab
open Go.RowKit

/-- groups that are drawn: those that are done, the members used, the group in hand -/
structure Some3 (w0 w wi : World) (g : Nat) (out used lv : Value) (m : List (List Int)) (F : List Nat) (us l : List Int) (Fl : List Nat) : Prop where
  hout : Bld (slO intO) wi w.heap.size 40 out m F
  hused : Bld intO wi w.heap.size 3 used us []
  hl : OwnSl intO wi lv l Fl
  su : ∀ b, used.ownBlock = some b → b ∉ F ∧ out.ownBlock ≠ some b ∧ b ∉ Fl
  sl : ∀ b ∈ Fl, w.heap.size ≤ b ∧ b ∉ F ∧ out.ownBlock ≠ some b
  nd : Fl.Nodup
  cur : Cur w0 wi g
  kept : Kept g w wi
  hg : g < w.heap.size
  h0 : w0.heap.size ≤ w.heap.size
section
variable {w0 w wi wj : World} {g : Nat} {out used lv : Value} {m : List (List Int)} {F : List Nat} {us l : List Int} {Fl : List Nat}
theorem Some3.draw (h : Some3 w0 w wi g out used lv m F us l Fl) (hc : Cur w0 wj g) (k : Kept g wi wj) : Some3 w0 w wj g out used lv m F us l Fl :=
  { hout := h.hout.kept h.hg k
    hused := h.hused.kept h.hg k
    hl := h.hl.kept (fun hm => by have := (h.sl g hm).1; have := h.hg; omega) k
    su := h.su
    sl := h.sl
    nd := h.nd
    cur := hc
    kept := h.kept.trans k
    hg := h.hg
    h0 := h.h0 }
theorem Some3.put (h : Some3 w0 w wi g out used lv m F us l Fl) {lv2 : Value} {ys : List Int} {F2 : List Nat} (x : Ext wi wj) (o : OwnSl intO wj lv2 ys F2) (hf : (F2 = Fl) ∨ NewF wi F2) : Some3 w0 w wj g out used lv2 m F us ys F2 :=
  { hout := h.hout.ext x
    hused := h.hused.ext x
    hl := o
    su := fun b hb => ⟨(h.su b hb).1, (h.su b hb).2.1, fun hm => by
      rcases hf with rfl | hf
      · exact (h.su b hb).2.2 hm
      · have := (h.hused.lt.2 b hb).1
        have := hf.2 b hm
        omega⟩
    sl := fun b hm => by
      rcases hf with rfl | hf
      · exact h.sl b hm
      · have h9 := hf.2 b hm
        have h8 := h.kept.1
        exact ⟨by omega, fun hF => by have := h.hout.lt.1 b hF; omega, fun e => by have := (h.hout.lt.2 b e).1; omega⟩
    nd := by
      rcases hf with rfl | hf
      · exact h.nd
      · exact hf.1
    cur := h.cur.ext x
    kept := h.kept.trans x.kept
    hg := h.hg
    h0 := h.h0 }
theorem Some3.use (h : Some3 w0 w wi g out used lv m F us l Fl) {used2 : Value} {us2 : List Int} (B : Bld intO wj w.heap.size 3 used2 us2 []) (hE : Ext w0 wj) (a : Aft wi wj used used2) : Some3 w0 w wj g out used2 lv m F us2 l Fl := by
  have low : ∀ b, b < w.heap.size → used.ownBlock ≠ some b := fun b hb e => by have := (h.hused.lt.2 b e).2; omega
  exact
  { hout := h.hout.keepOwn (fun b hb => a.keep b (h.hout.lt.1 b hb) fun e => (h.su b e).1 hb) (fun b hb => a.keep b (h.hout.lt.2 b hb).1 fun e => (h.su b e).2.1 hb)
    hused := B
    hl := h.hl.keep fun b hb => a.keep b (h.hl.lt b hb) fun e => (h.su b e).2.2 hb
    su := fun b hb => by
      rcases a.own b hb with e | e
      · exact h.su b e
      · exact ⟨fun hF => by have := h.hout.lt.1 b hF; omega, fun e2 => by have := (h.hout.lt.2 b e2).1; omega, fun hm => by have := h.hl.lt b hm; omega⟩
    sl := h.sl
    nd := h.nd
    cur := h.cur.keep hE (a.keep g h.cur.base.2.2 (low g h.hg))
    kept := ⟨Nat.le_trans h.kept.1 a.size, fun b hb hne => (a.keep b (Nat.lt_of_lt_of_le hb h.kept.1) (low b hb)).trans (h.kept.2 b hb hne)⟩
    hg := h.hg
    h0 := h.h0 }
theorem Some3.row (h : Some3 w0 w wi g out used lv m F us l Fl) {out2 : Value} {m2 : List (List Int)} (B : Bld (slO intO) wj w.heap.size 40 out2 m2 (F ++ Fl)) (hE : Ext w0 wj) (a : Aft wi wj out out2) : Some3 w0 w wj g out2 used (.slice none 0 0) m2 (F ++ Fl) us [] [] := by
  have low : ∀ b, b < w.heap.size → out.ownBlock ≠ some b := fun b hb e => by have := (h.hout.lt.2 b e).2; omega
  exact
  { hout := B
    hused := h.hused.keepOwn (fun b hb => by cases hb) (fun b hb => a.keep b (h.hused.lt.2 b hb).1 (h.su b hb).2.1)
    hl := .inl ⟨rfl, rfl, none, 0, rfl, Nat.zero_le _⟩
    su := fun b hb => ⟨fun hm => by
      rcases List.mem_append.1 hm with hm | hm
      · exact (h.su b hb).1 hm
      · exact (h.su b hb).2.2 hm, fun e => by
      rcases a.own b e with e | e
      · exact (h.su b hb).2.1 e
      · have := (h.hused.lt.2 b hb).1; omega, fun hm => by cases hm⟩
    sl := fun _ hm => by cases hm
    nd := List.nodup_nil
    cur := h.cur.keep hE (a.keep g h.cur.base.2.2 (low g h.hg))
    kept := ⟨Nat.le_trans h.kept.1 a.size, fun b hb hne => (a.keep b (Nat.lt_of_lt_of_le hb h.kept.1) (low b hb)).trans (h.kept.2 b hb hne)⟩
    hg := h.hg
    h0 := h.h0 }
theorem Some3.clr (h : Some3 w0 w wi g out used lv m F us l Fl) : Some3 w0 w wi g out used (.slice none 0 0) m F us [] [] :=
  { h with
    hl := .inl ⟨rfl, rfl, none, 0, rfl, Nat.zero_le _⟩
    su := fun b hb => ⟨(h.su b hb).1, (h.su b hb).2.1, fun hm => by cases hm⟩
    sl := fun _ hm => by cases hm
    nd := List.nodup_nil }
end
theorem Some3.start {w0 w : World} {g : Nat} (hc : Cur w0 w g) : Some3 w0 w ((w.alloc (.cells #[] 40)).alloc (.cells #[] 3)) g (.slice (some ⟨w.heap.size, 0, none⟩) 0 0) (.slice (some ⟨w.heap.size + 1, 0, none⟩) 0 0) (.slice none 0 0) [] [] [] [] [] := by
  obtain ⟨hx0, hg0, hg⟩ := hc.base
  have x1 : Ext w (w.alloc (.cells #[] 40)) := (Ext.refl w).alloc _
  have x2 : Ext (w.alloc (.cells #[] 40)) ((w.alloc (.cells #[] 40)).alloc (.cells #[] 3)) := (Ext.refl _).alloc _
  have hB2 := Bld.lit (R := intO) (w.alloc (.cells #[] 40)) (base := w.heap.size) x1.size 3
  simp only [World.size_alloc] at hB2
  exact
  { hout := (Bld.lit (R := slO intO) w (Nat.le_refl _) 40).ext x2
    hused := hB2
    hl := .inl ⟨rfl, rfl, none, 0, rfl, Nat.zero_le _⟩
    su := fun b hb => ⟨fun h => (by cases h), fun e => by
      injection hb with hb
      injection e with e
      have h1 : w.heap.size + 1 = b := hb
      have h2 : w.heap.size = b := e
      omega, fun h => by cases h⟩
    sl := fun _ h => by cases h
    nd := List.nodup_nil
    cur := (hc.ext x1).ext x2
    kept := (x1.trans x2).kept
    hg := hg
    h0 := hx0.size }
theorem all_snoc {m : List (List Int)} {l : List Int} (h : ∀ r ∈ m, r.length ≤ 3) (k : l.length ≤ 3) : ∀ r ∈ m ++ [l], r.length ≤ 3 := fun r hr => by
  rcases List.mem_append.1 hr with hr | hr
  · exact h r hr
  · rw [List.mem_singleton] at hr; rw [hr]; exact k

set_option maxHeartbeats 2000000 in
set_option maxRecDepth 20000 in
theorem spec_l26Some (w0 w : World) (g : Nat) (hc : Cur w0 w g) :
    Calls Try.prog 55 #[.pointer (some ⟨g, 0, none⟩)] w fun e w2 => ∃ v2 m F, e = .returned v2 ∧ OwnSl (slO intO) w2 v2 m F ∧ NewF w F ∧ m.length ≤ 3 ∧ (∀ r ∈ m, r.length ≤ 3) ∧ Cur w0 w2 g ∧ Kept g w w2 := by
  have hS0 := Some3.start hc
  have HS := hid hS0
  clear hS0
  go_enter Try.func55, Try.ntmps55
  go_wp2_with fail
  refine (spec_l1Below w0 _ g 4 (by decide) HS.out.cur).mono ?_
  rintro e w2 ⟨x1, rfl, hx1, hc2, hk2⟩
  obtain ⟨n1, rfl⟩ : ∃ n : Nat, x1 = n := ⟨x1.toNat, by omega⟩
  have HS2 := hid (HS.out.draw hc2 hk2)
  clear hc hc2 hk2 HS
  go_wp2
  go_loopw [3, 4, 5] (fun out used i wr => ∃ (m : List (List Int)) (F : List Nat) (us : List Int) (q : Nat), i = .int .i64 q ∧ m.length + q ≤ 3 ∧ (∀ r ∈ m, r.length ≤ 3) ∧ us.length ≤ 8 ∧ Hid (Some3 w0 w wr g out used (.slice none 0 0) m F us [] [])) (fun _ _ i _ => (intOf i).toNat)
  case atStart => exact ⟨[], [], [], n1, rfl, by simp; omega, fun r h => (by cases h), Nat.zero_le _, HS2⟩
  case round =>
    clear HS2
    obtain ⟨m, F, us, q, rfl, hmq, hm3, hus, HS⟩ := hrel
    by_cases hq : 0 < q
    · go_wp2_with fail
      have HS1 := hid (HS.out.put (lv2 := .slice (some ⟨wr.heap.size, 0, none⟩) 0 0) ((Ext.refl wr).alloc (.cells #[] 3)) (.inl ⟨rfl, rfl, _, 0, rfl, Nat.zero_le _⟩) (.inl rfl))
      refine (spec_l1Below w0 _ g 3 (by decide) HS1.out.cur).mono ?_
      rintro e w3 ⟨x2, rfl, hx2, hc3, hk3⟩
      obtain ⟨n2, rfl⟩ : ∃ n : Nat, x2 = n := ⟨x2.toNat, by omega⟩
      have HS3 := hid (HS1.out.draw hc3 hk3)
      have HM := hid hm3
      clear hc3 hk3 HS HS1 hm3
      go_wp2
      go_loopw [4, 6, 7] (fun used lv i wi => ∃ (us l : List Int) (Fl : List Nat) (p : Nat), i = .int .i64 p ∧ l.length + p ≤ 3 ∧ us.length ≤ 8 ∧ Hid (Some3 w0 w wi g u3 used lv m F us l Fl)) (fun _ _ i _ => (intOf i).toNat)
      case atStart => exact ⟨us, [], [], n2 + 1, by go_num, by simp; omega, hus, HS3⟩
      case round =>
        clear HS3 hus
        obtain ⟨us, l, Fl, p, rfl, hlp, hus, HS⟩ := hrel
        by_cases hp : 0 < p
        · go_wp2_with fail
          refine (spec_l1Below w0 _ g 4 (by decide) HS.out.cur).mono ?_
          rintro e w4 ⟨x3, rfl, hx3, hc4, hk4⟩
          have HS4 := hid (HS.out.draw hc4 hk4)
          clear hc4 hk4 HS
          go_wp2_with fail
          refine (spec_l1Below w0 _ g 3 (by decide) HS4.out.cur).mono ?_
          rintro e w5 ⟨x4, rfl, hx4, hc5, hk5⟩
          have HS5 := hid (HS4.out.draw hc5 hk5)
          clear hc5 hk5 HS4
          go_wp2_with fail
          refine (spec_l24Find _ us _ _ HS5.out.hused.sl).mono ?_
          rintro e w6 ⟨rfl, rfl⟩
          obtain ⟨x, hx⟩ : ∃ x, x = 100 * x3 + 1 + x4 := ⟨_, rfl⟩
          have hI : I64 x := by unfold I64; omega
          rw [← hx]
          have hsz := HS5.out.kept.1
          have h0 := HS5.out.h0
          obtain ⟨Au, cu, eu, _⟩ := HS5.out.hused.sl.form
          subst eu
          have HIK := hid hI
          by_cases hf : idxI x us < 0 ∧ us.length < 8
          · obtain ⟨hf1, hf2⟩ := hf
            have hf3 : (us.length : Int) < 8 := by omega
            clear hx hI
            go_wp2_with fail
            refine (spec_l14Put _ l x Fl _ HS5.out.hl HIK.out (by omega)).mono ?_
            rintro e w7 ⟨v7, ys, F7, rfl, o7, n7, hyl, x7⟩
            have HS7 := hid (HS5.out.put x7 o7 n7)
            clear o7 n7 x7 hsz h0
            have hsz := HS7.out.kept.1
            have h0 := HS7.out.h0
            have HB := hid HS7.out.hused
            have HU := hid hf2
            clear hf1 hf2 hf3
            go_wp2_with (at_builtin; go_loud (refine wpList_app1h elemInt (by decide) rfl _ _ rfl HB.out rfl w7.heap.size 1 rfl rfl (one_int _) (own_int _ _ HIK.out) fresh_nil (by omega) (by decide) hsz ?_); intro v8 w8 hB8 hE8 a8)
            have HS8 := hid (HS7.out.use hB8 (hE8 w0 h0 HS7.out.cur.base.1) a8)
            clear hB8 hE8 a8
            go_roundw
            case rel => exact ⟨us ++ [x], ys, F7, p - 1, (by (have e9 : ((p - 1 : Nat) : Int) = (p : Int) - 1 := by omega); rw [e9]), by omega, by simp; have := HU.out; omega, HS8⟩
            case measure => simp [intOf]; omega
          · have hg5 : ¬ (idxI x us < 0) ∨ ¬ ((us.length : Int) < 8) := by omega
            clear hx hI hf
            by_cases hf1 : idxI x us < 0
            · have hf3 : ¬ (us.length : Int) < 8 := hg5.resolve_left fun h => h hf1
              clear hg5
              go_wp2
              go_roundw
              case rel => exact ⟨us, l, Fl, p - 1, (by (have e9 : ((p - 1 : Nat) : Int) = (p : Int) - 1 := by omega); rw [e9]), by omega, hus, HS5⟩
              case measure => simp [intOf]; omega
            · clear hg5
              go_wp2
              go_roundw
              case rel => exact ⟨us, l, Fl, p - 1, (by (have e9 : ((p - 1 : Nat) : Int) = (p : Int) - 1 := by omega); rw [e9]), by omega, hus, HS5⟩
              case measure => simp [intOf]; omega
        · obtain rfl : p = 0 := by omega
          obtain ⟨Al, cl, el, _⟩ := HS.out.hl.form
          subst el
          have hsz := HS.out.kept.1
          have h0 := HS.out.h0
          by_cases hl0 : l.length = 0
          · have HS9 := hid HS.out.clr
            clear HS
            go_wp2
            go_roundw
            case rel => exact ⟨m, F, us, q - 1, (by (have e9 : ((q - 1 : Nat) : Int) = (q : Int) - 1 := by omega); rw [e9]), by omega, HM.out, hus, HS9⟩
            case measure => simp [intOf]; omega
          · have hl1 : (0 : Int) < (l.length : Int) := by omega
            have HB := hid HS.out.hout
            have HL := hid HS.out.hl
            have HG := hid (show (∀ b ∈ Fl, b ∉ F ∧ u3.ownBlock ≠ some b) ∧ Fl.Nodup ∧ ∀ b ∈ Fl, w.heap.size ≤ b from ⟨fun b hb => (HS.out.sl b hb).2, HS.out.nd, fun b hb => (HS.out.sl b hb).1⟩)
            have HL3 := hid (show l.length ≤ 3 by omega)
            clear hl0
            obtain ⟨wk, hwk⟩ : ∃ wk, wk = wr := ⟨_, rfl⟩
            go_wp2_with (at_builtin; go_loud (refine wpList_app1h elemInts (by decide) rfl _ _ rfl HB.out rfl _ 1 rfl rfl (one_slice _ _ _) (y := l) ⟨_, rfl, HL.out⟩ HG.out (by omega) (by decide) hsz ?_); intro v8 w8 hB8 hE8 a8)
            have HS8 := hid (HS.out.row hB8 (hE8 w0 h0 HS.out.cur.base.1) a8)
            clear hB8 hE8 a8 hl1
            go_roundw
            case rel => exact ⟨m ++ [l], F ++ Fl, us, q - 1, (by (have e9 : ((q - 1 : Nat) : Int) = (q : Int) - 1 := by omega); rw [e9]), by simp; omega, all_snoc HM.out HL3.out, hus, HS8⟩
            case measure => simp [intOf]; omega
    · obtain ⟨F9, o9, n9, m9⟩ := HS.out.hout.done
      have hc9 := HS.out.cur
      have k9 := HS.out.kept
      clear HS
      go_wp2
      go_ret
      exact ⟨_, m, F9, rfl, o9, ⟨n9, m9⟩, by omega, hm3, hc9, k9⟩
end Go.Proofs.Ytfcbapaojoecgab
