/-
  WALKS: the drawing of entities: l26Entities, l26Any, DrawDescribeChanges, DrawCarryIdentities.
-/
import Derived.Test.YtfcbapaojoecgabMgEndFnId18
import Derived.Test.YtfcbapaojoecgabMgEndFnId21
import Derived.Test.YtfcbapaojoecgabMgEndFnId23

namespace Go.Proofs.Ytfcbapaojoecgab
open Go.RowKit

/-- entities that a run has drawn: their rows lie in blocks that the list itself never writes -/
def EntsB (base : Nat) (w : World) (v : Value) (xs : List Entity) : Prop := ∃ F : List Nat, (∀ b ∈ F, base ≤ b ∧ b < w.heap.size) ∧ (∀ b, v.ownBlock = some b → b ∉ F) ∧
  Bld (atP entityR fun cs x => ∀ w3 : World, (∀ b ∈ F, w3.heap[b]? = w.heap[b]?) → entityR.rd w3 cs x) w base 42 v xs []
theorem EntsB.move {base : Nat} {w w2 : World} {v : Value} {xs : List Entity} (h : EntsB base w v xs) (hk : ∀ b, base ≤ b → b < w.heap.size → w2.heap[b]? = w.heap[b]?) (hs : w.heap.size ≤ w2.heap.size) : EntsB base w2 v xs := by
  obtain ⟨F, h1, h2, h3⟩ := h
  have hl := h3.lt.2
  exact ⟨F, fun b hb => ⟨(h1 b hb).1, by have := (h1 b hb).2; omega⟩, h2, h3.moveP (fun b hb => hk b (hl b hb).2 (hl b hb).1) fun cs x hp w3 h9 => hp w3 fun b hb => (h9 b hb).trans (hk b (h1 b hb).1 (h1 b hb).2)⟩
theorem EntsB.kept {base g : Nat} {w w2 : World} {v : Value} {xs : List Entity} (h : EntsB base w v xs) (hg : g < base) (k : Kept g w w2) : EntsB base w2 v xs :=
  h.move (fun b hb hl => k.2 b hl (by omega)) k.1
theorem EntsB.ext {base : Nat} {w w2 : World} {v : Value} {xs : List Entity} (h : EntsB base w v xs) (x : Ext w w2) : EntsB base w2 v xs := h.move (fun _ _ hl => x.block hl) x.size
theorem EntsB.sl {base : Nat} {w : World} {v : Value} {xs : List Entity} (h : EntsB base w v xs) : Sl entityR w v xs := by
  obtain ⟨F, h1, h2, h3⟩ := h
  exact h3.sl.of_atP fun cs x hp => hp w fun _ _ => rfl
/-- ahead of an append -/
theorem EntsB.pre {base : Nat} {w : World} {v : Value} {xs : List Entity} (h : EntsB base w v xs) (F1 : List Nat) (h1 : ∀ b ∈ F1, base ≤ b ∧ b < w.heap.size) (hv : ∀ b, v.ownBlock = some b → b ∉ F1) :
    ∃ F' : List Nat, (∀ b ∈ F', base ≤ b ∧ b < w.heap.size) ∧ (∀ b, v.ownBlock = some b → b ∉ F') ∧ (∀ b ∈ F1, b ∈ F') ∧ Bld (atP entityR fun cs x => ∀ w3 : World, (∀ b ∈ F', w3.heap[b]? = w.heap[b]?) → entityR.rd w3 cs x) w base 42 v xs [] := by
  obtain ⟨F, k1, k2, k3⟩ := h
  refine ⟨F ++ F1, fun b hb => ?_, fun b hb hm => ?_, fun b hb => List.mem_append_right _ hb, k3.moveP (fun _ _ => rfl) fun cs x hp w3 h9 => hp w3 fun b hb => h9 b (List.mem_append_left _ hb)⟩
  · rcases List.mem_append.1 hb with hb | hb
    · exact k1 b hb
    · exact h1 b hb
  · rcases List.mem_append.1 hm with hm | hm
    · exact k2 b hb hm
    · exact hv b hb hm
/-- behind it -/
theorem EntsB.post {base : Nat} {w w' : World} {v v' : Value} {xs : List Entity} {F' : List Nat} (h1 : ∀ b ∈ F', base ≤ b ∧ b < w.heap.size) (hv : ∀ b, v.ownBlock = some b → b ∉ F')
    (B : Bld (atP entityR fun cs x => ∀ w3 : World, (∀ b ∈ F', w3.heap[b]? = w.heap[b]?) → entityR.rd w3 cs x) w' base 42 v' xs []) (a : Aft w w' v v') : EntsB base w' v' xs := by
  refine ⟨F', fun b hb => ⟨(h1 b hb).1, Nat.lt_of_lt_of_le (h1 b hb).2 a.size⟩, fun b hb hm => ?_, B.moveP (fun _ _ => rfl) fun cs x hp w3 h9 => hp w3 fun b hb => (h9 b hb).trans (a.keep b (h1 b hb).2 fun e => hv b e hb)⟩
  rcases a.own b hb with e | e
  · exact hv b e hm
  · have := (h1 b hm).2; omega
/-- the entities' loop -/
structure Ents3 (w0 w w3 wi : World) (g : Nat) (t : Value) (F : List Nat) (xs : List Entity) : Prop where
  ents : EntsB w.heap.size wi t xs
  ow : ∀ b, t.ownBlock = some b → b ∉ F
  st : ∀ b ∈ F, wi.heap[b]? = w3.heap[b]?
  ge : ∀ b ∈ F, w.heap.size ≤ b ∧ b < w3.heap.size
  sz : w3.heap.size ≤ wi.heap.size
  cur : Cur w0 wi g
  kept : Kept g w wi
  hg : g < w.heap.size
section
variable {w0 w w3 wi wj : World} {g : Nat} {t t2 : Value} {F : List Nat} {xs xs2 : List Entity}
theorem Ents3.draw (h : Ents3 w0 w w3 wi g t F xs) (hc : Cur w0 wj g) (k : Kept g wi wj) : Ents3 w0 w w3 wj g t F xs :=
  { h with
    ents := h.ents.kept h.hg k
    st := fun b hb => (k.2 b (Nat.lt_of_lt_of_le (h.ge b hb).2 h.sz) (by have := (h.ge b hb).1; have := h.hg; omega)).trans (h.st b hb)
    sz := Nat.le_trans h.sz k.1
    cur := hc
    kept := h.kept.trans k }
theorem Ents3.app (h : Ents3 w0 w w3 wi g t F xs) (E : EntsB w.heap.size wj t2 xs2) (a : Aft wi wj t t2) (hE : Ext w0 wj) (lo : ∀ b, t.ownBlock = some b → w.heap.size ≤ b) : Ents3 w0 w w3 wj g t2 F xs2 :=
  { h with
    ents := E
    ow := fun b hb hm => by
      rcases a.own b hb with e | e
      · exact h.ow b e hm
      · have := (h.ge b hm).2; have := h.sz; omega
    st := fun b hb => (a.keep b (Nat.lt_of_lt_of_le (h.ge b hb).2 h.sz) fun e => h.ow b e hb).trans (h.st b hb)
    sz := Nat.le_trans h.sz a.size
    cur := h.cur.keep hE (a.keep g h.cur.base.2.2 fun e => by have := lo g e; have := h.hg; omega)
    kept := ⟨Nat.le_trans h.kept.1 a.size, fun b hb hne => (a.keep b (Nat.lt_of_lt_of_le hb h.kept.1) fun e => by have := lo b e; omega).trans (h.kept.2 b hb hne)⟩ }
end
theorem EntsB.low {base : Nat} {w : World} {v : Value} {xs : List Entity} (h : EntsB base w v xs) : ∀ b, v.ownBlock = some b → base ≤ b ∧ b < w.heap.size := by
  obtain ⟨F, _, _, h3⟩ := h
  exact fun b hb => ⟨(h3.lt.2 b hb).2, (h3.lt.2 b hb).1⟩
theorem ms_snoc (xs : List Entity) (y : Entity) : msEnts (xs ++ [y]) = msEnts xs + 1 + y.members.length := by
  unfold msEnts sumMem
  rw [List.map_append, List.sum_append, List.length_append]
  simp
  omega
/-- entities that were drawn -/
def EntsDrawn (w0 w : World) (g n : Nat) (e : Ending) (w2 : World) : Prop := ∃ v2 xs, e = .returned v2 ∧ EntsB w.heap.size w2 v2 xs ∧ msEnts xs ≤ n ∧ Cur w0 w2 g ∧ Kept g w w2

set_option maxHeartbeats 2000000 in
set_option maxRecDepth 20000 in
theorem spec_l26Entities (w0 w : World) (g : Nat) (hc : Cur w0 w g) :
    Calls Try.prog 80 #[.pointer (some ⟨g, 0, none⟩)] w (EntsDrawn w0 w g 12) := by
  have hg := hc.base.2.2
  have h0w := hc.base.1.size
  have xa : Ext w (w.alloc (.cells #[] 42)) := (Ext.refl w).alloc _
  have hE0 : EntsB w.heap.size (w.alloc (.cells #[] 42)) (.slice (some ⟨w.heap.size, 0, none⟩) 0 0) [] := ⟨[], fun _ h => (by cases h), fun _ _ h => (by cases h), Bld.lit w (Nat.le_refl _) _⟩
  go_enter Try.func80, Try.ntmps80
  go_wp2_with fail
  refine (spec_l26Some w0 _ g (hc.ext xa)).mono ?_
  rintro e w3 ⟨v3, m, F, rfl, o3, n3, hml, hm3, hc3, hk3⟩
  have HE0 := hid (show Ents3 w0 w w3 w3 g (.slice (some ⟨w.heap.size, 0, none⟩) 0 0) F [] from
    { ents := hE0.kept hg hk3
      ow := fun b hb hm => by
        injection hb with hb
        have h1 : w.heap.size = b := hb
        have h2 := n3.2 b hm
        rw [World.size_alloc] at h2
        omega
      st := fun _ _ => rfl
      ge := fun b hb => ⟨by have h2 := n3.2 b hb; rw [World.size_alloc] at h2; omega, o3.lt b hb⟩
      sz := Nat.le_refl _
      cur := hc3
      kept := xa.kept.trans hk3
      hg := hg })
  obtain ⟨Am, cm, em, _⟩ := o3.form
  subst em
  have HO := hid (And.intro o3 n3.1)
  have HM := hid hm3
  clear hE0 o3 n3 hc3 hk3 hm3 hc
  go_wp2
  go_loopw [3, 4, 6] (fun t id i wr => ∃ (k : Nat) (xs : List Entity) (n : Int), k ≤ m.length ∧ i = .int .i64 k ∧ id = .int .i64 n ∧ (0 ≤ n ∧ n ≤ 3 * k) ∧ xs.length ≤ k ∧ msEnts xs ≤ 4 * k ∧ Hid (Ents3 w0 w w3 wr g t F xs)) (fun _ _ i _ => m.length - (intOf i).toNat)
  case atStart => exact ⟨0, [], 0, Nat.zero_le _, rfl, rfl, by omega, Nat.le_refl _, Nat.le_refl _, HE0⟩
  case round =>
    clear HE0
    obtain ⟨k, xs, n, hk, rfl, rfl, hn, hxl, hms, HE⟩ := hrel
    by_cases hlt : k < m.length
    · go_wp2_with fail
      refine (spec_l1Below w0 _ g 3 (by decide) HE.out.cur).mono ?_
      rintro e w4 ⟨x, rfl, hx, hc4, hk4⟩
      have HE4 := hid (HE.out.draw hc4 hk4)
      clear hc4 hk4 HE
      obtain ⟨gb, off, capm, c, F1, eg, hgF, hF1, _, _, ⟨v9, ec, o9⟩, _, hcell, _, _, _⟩ := (HO.out.1.keep HE4.out.st).elem HO.out.2 hlt
      injection eg with eg1 eg2 eg3
      subst eg1
      subst ec
      clear eg2 eg3
      obtain ⟨A9, c9, e9, _⟩ := o9.form
      subst e9
      have c0 : w4.cell? ⟨gb, off + k, none⟩ = some (.slice A9 m[k].length c9) := by
        have := hcell 0 (by show 0 < 1; decide)
        simpa [slO, slR] using this
      have hml3 := HM.out m[k] (List.getElem_mem hlt)
      obtain ⟨F', q1, q2, q3, B'⟩ := HE4.out.ents.pre F1 (fun b hb => ⟨(HE4.out.ge b (hF1 b hb)).1, o9.lt b hb⟩) (fun b hb hm => HE4.out.ow b hb (hF1 b hm))
      have HOWN := hid (show (atP entityR fun cs x => ∀ w3 : World, (∀ b ∈ F', w3.heap[b]? = w4.heap[b]?) → entityR.rd w3 cs x).own w4 (#[.int .i64 (n + 1 + x), .slice A9 m[k].length c9] : Array Value).toList ⟨n + 1 + x, m[k]⟩ [] from
        ⟨⟨fun w3 h9 => ⟨_, rfl, (by show I64 (n + 1 + x); unfold I64; omega), (o9.keep fun b hb => h9 b (q3 b hb)).sl⟩, rfl⟩, rfl⟩)
      have HP := hid (And.intro q1 q2)
      have hsz := HE4.out.kept.1
      clear hcell o9 hF1 hgF q1 q2 q3
      go_wp2_with (at_builtin; go_loud (refine wpList_app1h (R := atP entityR _) elemEnt (show 0 < entityO.n by decide) rfl _ _ rfl B' rfl w4.heap.size 1 rfl rfl (one_ent _ _ _ _) (y := ⟨n + 1 + x, m[k]⟩) HOWN.out fresh_nil (by omega) (by decide) hsz ?_); intro v8 w8 hB8 hE8 a8)
      have HE8 := hid (HE4.out.app (EntsB.post HP.out.1 HP.out.2 hB8 a8) a8 (hE8 w0 (by omega) HE4.out.cur.base.1) (fun b hb => (HE4.out.ents.low b hb).1))
      have HMS := hid (ms_snoc xs ⟨n + 1 + x, m[k]⟩)
      clear hB8 hE8 a8 c0 B'
      go_roundw
      case rel => exact ⟨k + 1, xs ++ [⟨n + 1 + x, m[k]⟩], n + 1 + x, by omega, by go_num, rfl, by omega, by simp; omega, by rw [HMS.out]; show _ + _ + m[k].length ≤ _; omega, HE8⟩
      case measure => simp [intOf]; omega
    · go_wp2
      go_ret
      exact ⟨_, xs, rfl, HE.out.ents, by omega, HE.out.cur, HE.out.kept⟩

set_option maxHeartbeats 2000000 in
set_option maxRecDepth 20000 in
theorem spec_l26Any (w0 w : World) (g : Nat) (hc : Cur w0 w g) :
    Calls Try.prog 54 #[.pointer (some ⟨g, 0, none⟩)] w (EntsDrawn w0 w g 14) := by
  have hg := hc.base.2.2
  have h0w := hc.base.1.size
  go_enter Try.func54, Try.ntmps54
  go_wp2_with fail
  refine (spec_l26Entities w0 _ g hc).mono ?_
  rintro e w2 ⟨v2, xs, rfl, hE2, hms, hc2, hk2⟩
  obtain ⟨A2, c2, e2, _⟩ := hE2.sl.form
  subst e2
  have hxl : xs.length ≤ 12 := by unfold msEnts at hms; omega
  go_wp2_with fail
  refine (spec_l1Below w0 _ g 14 (by decide) hc2).mono ?_
  rintro e w3 ⟨x, rfl, hx, hc3, hk3⟩
  have hE3 := hE2.kept hg hk3
  have k03 := hk2.trans hk3
  have hg3 := hc3.base.2.2
  have hs3 := k03.1
  clear hc hc2 hE2 hk2 hk3
  by_cases h0 : x = 0
  · subst h0
    have HE3 := hid hE3
    have HC3 := hid hc3
    clear hE3
    go_wp2_with fail
    refine (spec_l1PickInt w0 _ g _ [1, 20, 0, 10000] (by decide) (HC3.out.ext ((Ext.refl _).alloc _)) (fun w4 k4 => (lit_kept rfl (by simp [I64]) (by decide) hg3 k4).sl)).mono ?_
    rintro e w4 ⟨y1, rfl, hI1, hc4, hk4⟩
    have k34 := (Ext.kept (g := g) ((Ext.refl _).alloc _)).trans hk4
    have hg4 := hc4.base.2.2
    have HE4 := hid (HE3.out.kept hg k34)
    have k04 := k03.trans k34
    clear hk4 HE3 k34 HC3
    go_wp2_with fail
    refine (spec_l1PickInt w0 _ g _ [1, 101, 0, 400] (by decide) (hc4.ext ((Ext.refl _).alloc _)) (fun w5 k5 => (lit_kept rfl (by simp [I64]) (by decide) hg4 k5).sl)).mono ?_
    rintro e w5 ⟨y2, rfl, hI2, hc5, hk5⟩
    have k45 := (Ext.kept (g := g) ((Ext.refl _).alloc _)).trans hk5
    have hg5 := hc5.base.2.2
    have xm : Ext w5 (w5.alloc (.cells #[.int .i64 y2] 3)) := (Ext.refl w5).alloc _
    have hE5 := (HE4.out.kept hg k45).ext xm
    have k05 := (k04.trans k45).trans (xm.kept (g := g))
    have hc6 := hc5.ext xm
    have hrow : OwnSl intO (w5.alloc (.cells #[.int .i64 y2] 3)) (.slice (some ⟨w5.heap.size, 0, none⟩) 1 1) [y2] [w5.heap.size] :=
      OwnSl.of_blk (xs := [y2]) (Blk.new w5 3 #[.int .i64 y2]) (by simp [maxLen]) (ints_cells _ [y2] (by simpa using hI2))
    have hs5 : w.heap.size ≤ w5.heap.size := by have := (k04.trans k45).1; exact this
    obtain ⟨F', q1, q2, q3, B'⟩ := hE5.pre [w5.heap.size] (fun b hb => by rw [List.mem_singleton] at hb; subst hb; exact ⟨hs5, by simp⟩) (fun b hb hm => by
      rw [List.mem_singleton] at hm
      subst hm
      have := ((HE4.out.kept hg k45).low _ hb).2
      omega)
    have HOWN := hid (show (atP entityR fun cs x => ∀ w3 : World, (∀ b ∈ F', w3.heap[b]? = (w5.alloc (.cells #[.int .i64 y2] 3)).heap[b]?) → entityR.rd w3 cs x).own (w5.alloc (.cells #[.int .i64 y2] 3)) (#[.int .i64 y1, .slice (some ⟨w5.heap.size, 0, none⟩) 1 1] : Array Value).toList ⟨y1, [y2]⟩ [] from
      ⟨⟨fun w3 h9 => ⟨_, rfl, hI1, (hrow.keep fun b hb => h9 b (q3 b hb)).sl⟩, rfl⟩, rfl⟩)
    have HP := hid (And.intro q1 q2)
    have HB := hid B'
    have HC6 := hid hc6
    have HE5 := hid hE5
    have HK5 := hid k05
    have hsz : w.heap.size ≤ (w5.alloc (.cells #[.int .i64 y2] 3)).heap.size := k05.1
    clear hrow q1 q2 q3 B' hE5 k05 hc6 hc5 hk5 k45 xm hc4 HE4 k04
    go_wp2_with (at_builtin; go_loud (refine wpList_app1h (R := atP entityR _) elemEnt (show 0 < entityO.n by decide) rfl _ _ rfl HB.out rfl _ 1 rfl (by simp) (one_ent _ _ _ _) (y := ⟨y1, [y2]⟩) HOWN.out fresh_nil (by omega) (by decide) hsz ?_); intro v8 w8 hB8 hE8 a8)
    have HL := hid HE5.out.low
    go_ret
    refine ⟨v8, xs ++ [(⟨y1, [y2]⟩ : Entity)], rfl, EntsB.post HP.out.1 HP.out.2 hB8 a8, ?_, HC6.out.keep (hE8 w0 h0w HC6.out.base.1) (a8.keep g HC6.out.base.2.2 fun e => by have := (HL.out g e).1; omega),
      ⟨Nat.le_trans HK5.out.1 a8.size, fun b hb hne => (a8.keep b (Nat.lt_of_lt_of_le hb HK5.out.1) fun e => by have := (HL.out b e).1; omega).trans (HK5.out.2 b hb hne)⟩⟩
    rw [ms_snoc]
    show msEnts xs + 1 + 1 ≤ 14
    omega
  · have e0 : (x == 0) = false := by simp [h0]
    by_cases h1 : x = 1
    · subst h1
      obtain ⟨F', q1, q2, q3, B'⟩ := hE3.pre [] (fun b hb => by cases hb) (fun b hb hm => by cases hm)
      have HOWN := hid (show (atP entityR fun cs x => ∀ w9 : World, (∀ b ∈ F', w9.heap[b]? = w3.heap[b]?) → entityR.rd w9 cs x).own w3 (#[.int .i64 30, .slice none 0 0] : Array Value).toList ⟨30, []⟩ [] from
        ⟨⟨fun w3 _ => ⟨_, rfl, (by show I64 30; unfold I64; omega), ⟨none, 0, rfl, ⟨Nat.le_refl _, Nat.zero_le _⟩, fun i hi => absurd hi (Nat.not_lt_zero _)⟩⟩, rfl⟩, rfl⟩)
      have HP := hid (And.intro q1 q2)
      have HB := hid B'
      have HC3 := hid hc3
      have HL := hid hE3.low
      have HK := hid k03
      clear q1 q2 q3 B' hc3 hE3 k03
      go_wp2_with (at_builtin; go_loud (refine wpList_app1h (R := atP entityR _) elemEnt (show 0 < entityO.n by decide) rfl _ _ rfl HB.out rfl _ 1 rfl rfl (one_ent _ _ _ _) (y := ⟨30, []⟩) HOWN.out fresh_nil (by omega) (by decide) hs3 ?_); intro v8 w8 hB8 hE8 a8)
      go_ret
      refine ⟨v8, xs ++ [(⟨30, []⟩ : Entity)], rfl, EntsB.post HP.out.1 HP.out.2 hB8 a8, ?_, HC3.out.keep (hE8 w0 h0w HC3.out.base.1) (a8.keep g HC3.out.base.2.2 fun e => by have := (HL.out g e).1; omega),
        ⟨Nat.le_trans HK.out.1 a8.size, fun b hb hne => (a8.keep b (Nat.lt_of_lt_of_le hb HK.out.1) fun e => by have := (HL.out b e).1; omega).trans (HK.out.2 b hb hne)⟩⟩
      rw [ms_snoc]
      show msEnts xs + 1 + 0 ≤ 14
      omega
    · have e1 : (x == 1) = false := by simp [h1]
      go_wp2
      go_ret
      exact ⟨_, xs, rfl, hE3, by omega, hc3, k03⟩
theorem carry_ms (x : List Entity) (y : List (List Int)) (n : Int) : msEnts (carry x y n).1 ≤ 100 := by
  cases h : okC x y n with
  | false => rw [carry_no h]; decide
  | true =>
    have h1 := ents_small (carry_facts h).1
    unfold msEnts
    omega
theorem sumLen_3 : ∀ {m : List (List Int)}, (∀ r ∈ m, r.length ≤ 3) → sumLen m ≤ 3 * m.length
  | [], _ => by simp [sumLen]
  | r :: m, h => by
    have h1 := sumLen_3 fun x hx => h x (List.mem_cons_of_mem r hx)
    have h2 := h r (List.mem_cons_self ..)
    unfold sumLen at *
    simp only [List.map_cons, List.sum_cons, List.length_cons]
    omega

set_option maxHeartbeats 2000000 in
set_option maxRecDepth 20000 in
theorem spec_DrawDescribeChanges (w : World) (v : Value) (bs : List Int) (h : Sl u8R w v bs) :
    Calls Try.prog 22 #[v] w fun e w2 => ∃ v1 v2 xs ys, e = .returned (.tuple #[v1, v2]) ∧ Sl entityR w2 v1 xs ∧ Sl entityR w2 v2 ys ∧ msEnts xs ≤ 100 ∧ msEnts ys ≤ 100 ∧ Ext w w2 := by
  obtain ⟨A, cap, rfl, hm⟩ := h.form
  go_enter Try.func22, Try.ntmps22
  go_wp2_with fail
  refine (spec_l1New w _ bs h).mono ?_
  rintro e w2 ⟨rfl, hc2, x2⟩
  obtain ⟨g, hg⟩ : ∃ g, g = w.heap.size := ⟨_, rfl⟩
  rw [← hg] at hc2 ⊢
  clear hg
  go_wp2_with fail
  refine (spec_l26Any w _ g hc2).mono ?_
  rintro e w3 ⟨v3, xs, rfl, hE3, hms, hc3, hk3⟩
  have hg2 := hc2.base.2.2
  go_wp2_with fail
  refine (spec_l1Once w _ g 4 (by decide) hc3).mono ?_
  rintro e w4 ⟨b, rfl, hc4, hk4⟩
  have hE4 := hE3.kept hg2 hk4
  clear hE3 hc3 hk3 hk4 hc2
  cases b with
  | true =>
    go_wp2_with fail
    refine (spec_l26Any w _ g hc4).mono ?_
    rintro e w5 ⟨v5, ys, rfl, hE5, hms5, hc5, hk5⟩
    have hE6 := hE4.kept hg2 hk5
    go_wp2
    refine bodyPost_ret (v := .tuple #[v3, v5]) (by simp [results, Try.results22, go_sem]) rfl ?_
    exact ⟨_, _, xs, ys, rfl, hE6.sl, hE5.sl, by omega, by omega, hc5.base.1⟩
  | false =>
    go_wp2_with fail
    refine (spec_l26Some w _ g hc4).mono ?_
    rintro e w5 ⟨v5, m, F, rfl, o5, _, hml, hm3, hc5, hk5⟩
    have hE6 := hE4.kept hg2 hk5
    have hsl := sumLen_3 hm3
    have s6 := hE6.sl
    have s5 := o5.sl
    have x5 := hc5.base.1
    clear hE4 hE6 hc4 hc5 hk5 o5 hm3
    go_wp2_with fail
    refine (spec_CarryIdentities _ _ xs m 20 _ s6 s5 (by omega) (by omega)).mono ?_
    rintro e w6 ⟨v6, rfl, s7, x6⟩
    have hcm := carry_ms xs m 20
    have s8 := s6.mono x6
    have x7 := x5.trans x6
    clear s6 s5 x5 x6
    go_wp2
    refine bodyPost_ret (v := .tuple #[v3, v6]) (by simp [results, Try.results22, go_sem]) rfl ?_
    exact ⟨_, _, xs, _, rfl, s8, s7, by omega, hcm, x7⟩

set_option maxHeartbeats 2000000 in
set_option maxRecDepth 20000 in
theorem spec_DrawCarryIdentities (w : World) (v : Value) (bs : List Int) (h : Sl u8R w v bs) :
    Calls Try.prog 18 #[v] w fun e w2 => ∃ v1 v2 n xs m, e = .returned (.tuple #[v1, v2, .int .i64 n]) ∧ I64 n ∧ Sl entityR w2 v1 xs ∧ Sl (slR intR) w2 v2 m ∧ msEnts xs ≤ 100 ∧ sumLen m ≤ 100 ∧ m.length ≤ 100 ∧ Ext w w2 := by
  obtain ⟨A, cap, rfl, hm⟩ := h.form
  go_enter Try.func18, Try.ntmps18
  go_wp2_with fail
  refine (spec_l1New w _ bs h).mono ?_
  rintro e w2 ⟨rfl, hc2, x2⟩
  obtain ⟨g, hg⟩ : ∃ g, g = w.heap.size := ⟨_, rfl⟩
  rw [← hg] at hc2 ⊢
  clear hg
  go_wp2_with fail
  refine (spec_l26Any w _ g hc2).mono ?_
  rintro e w3 ⟨v3, xs, rfl, hE3, hms, hc3, hk3⟩
  have hg2 := hc2.base.2.2
  have hg3 := hc3.base.2.2
  clear hk3 hc2
  go_wp2_with fail
  refine (spec_l26Some w _ g hc3).mono ?_
  rintro e w4 ⟨v4, m, F, rfl, o4, n4, hml, hm3, hc4, hk4⟩
  have hE4 := hE3.kept hg2 hk4
  have hsl := sumLen_3 hm3
  have hg4 := hc4.base.2.2
  have HO := hid (And.intro o4 n4)
  have HE4 := hid hE4
  clear hE3 hc3 hk4 hm3 o4 n4 hE4
  go_wp2_with fail
  refine (spec_l1PickInt w _ g _ [20, 20, 20, 15, 3, 0, 9991, 9992] (by decide) (hc4.ext ((Ext.refl _).alloc _)) (fun w5 k5 => (lit_kept rfl (by simp [I64]) (by decide) hg4 k5).sl)).mono ?_
  rintro e w5 ⟨n, rfl, hI, hc5, hk5⟩
  have k45 := (Ext.kept (g := g) ((Ext.refl _).alloc _)).trans hk5
  have s5 := (HE4.out.kept hg2 k45).sl
  have s6 := (HO.out.1.kept (fun hmm => by have := HO.out.2.2 _ hmm; omega) k45).sl
  have x5 := hc5.base.1
  clear hc4 hc5 hk5 k45
  go_wp2
  refine bodyPost_ret (v := .tuple #[v3, v4, .int .i64 n]) (by simp [results, Try.results18, go_sem]) rfl ?_
  exact ⟨_, _, n, xs, m, rfl, hI, s5, s6, by omega, by omega, by omega, x5⟩
end Go.Proofs.Ytfcbapaojoecgab
