/-
  WALKS: slices.SortFunc at rows of ints (by slices.Compare) and at entities (by CarryIdentities$1), slices.Clone at both.
-/
import Derived.Test.YtfcbapaojoecgabMgEndFnId11
import Derived.Test.YtfcbapaojoecgabMgEndFnId6
import Derived.Test.YtfcbapaojoecgabMgEndFnId0
import Derived.Test.YtfcbapaojoecgabMgEndFnId8
import Derived.Test.YtfcbapaojoecgabMgEndFnId10
import Derived.Test.YtfcbapaojoecgabMgEndFnId4
import Derived.Test.YtfcbapaojoecgabMgEndFnId5
import Derived.Lib.SliceRun

namespace Go.Proofs.Ytfcbapaojoecgab
open Go.RowKit

set_option maxHeartbeats 400000 in
theorem slices_Compare_i (v u : Value) (xs ys : List Int) (w : World) (h : Sl intR w v xs) (k : Sl intR w u ys) :
    Calls Try.prog 41 #[v, u] w fun e w2 => e = .returned (.int .i64 (cmpL xs ys)) ∧ w = w2 := by
  obtain ⟨A, cap, rfl, hm⟩ := h.form
  obtain ⟨B, cap2, rfl, hm2⟩ := k.form
  go_enter Try.func41, Try.ntmps41
  go_wp2
  go_loop [11] (fun i => ∃ j : Nat, j ≤ xs.length ∧ j ≤ ys.length ∧ i = .int .i64 j ∧ xs.take j = ys.take j) (fun i => xs.length - (intOf i).toNat)
  case atStart => exact ⟨0, Nat.zero_le _, Nat.zero_le _, rfl, by simp⟩
  case round =>
    obtain ⟨j, hj1, hj2, rfl, he⟩ := hrel
    have HE := hid he
    clear he
    by_cases hlt : j < xs.length
    · obtain ⟨b, off, rfl, hI, hc⟩ := h.int hlt
      by_cases hlt2 : j < ys.length
      · obtain ⟨b2, off2, rfl, hI2, hc2⟩ := k.int hlt2
        have h64 := (cmpI_64 xs[j] ys[j]).out
        by_cases h0 : cmpI xs[j] ys[j] = 0
        · have H0 := hid h0
          have h0' : (cmpI xs[j] ys[j] != 0) = false := by simp [h0]
          clear h0
          go_wp2_with (go_at_call 48; refine (cmp_Compare _ _ _).mono ?_; rintro e w2 ⟨rfl, rfl⟩)
          go_round
          case rel => exact ⟨j + 1, by omega, by omega, by go_num, by rw [List.take_succ_eq_append_getElem hlt, List.take_succ_eq_append_getElem hlt2, HE.out, cmpI_zero.1 H0.out]⟩
          case measure => simp [intOf]; omega
        · have H0 := hid h0
          have h0' : (cmpI xs[j] ys[j] != 0) = true := by simp [h0]
          clear h0
          go_wp2_with (go_at_call 48; refine (cmp_Compare _ _ _).mono ?_; rintro e w2 ⟨rfl, rfl⟩)
          go_ret
          exact ⟨ret_int (cmpL_at hlt hlt2 HE.out (fun e => H0.out (cmpI_zero.2 e))).symm, rfl⟩
      · have HX := hid (cmpL_end hj1 hj2 HE.out (by omega))
        go_wp2_with fail
        go_ret
        exact ⟨ret_int (by rw [HX.out]; unfold cmpI; rw [if_neg (by omega), if_pos (by omega)]), rfl⟩
    · have HX := hid (cmpL_end hj1 hj2 HE.out (by omega))
      by_cases hll : xs.length < ys.length
      · go_wp2_with fail
        go_ret
        exact ⟨ret_int (by rw [HX.out]; unfold cmpI; rw [if_pos (by omega)]), rfl⟩
      · go_wp2_with fail
        go_ret
        exact ⟨ret_int (by rw [HX.out]; unfold cmpI; rw [if_neg (by omega), if_neg (by omega)]), rfl⟩

set_option maxHeartbeats 400000 in
theorem impl_byID (i j : Int) (u v : Value) (w : World) :
    Calls Try.prog 47 #[.agg #[.int .i64 i, u], .agg #[.int .i64 j, v]] w fun e w2 => e = .returned (.int .i64 (cmpI i j)) ∧ Grn w w2 := by
  go_enter Try.func47, Try.ntmps47
  go_wp2_with (go_at_call 48; refine (cmp_Compare _ _ _).mono ?_; rintro e w2 ⟨rfl, rfl⟩)
  go_ret
  exact ⟨ret_int rfl, by repeat (first | exact Grn.refl _ | refine Grn.drew ?_ | refine Grn.alloc ?_ _)⟩

theorem ext_mapBlock {w0 w : World} {g : Nat} (hg : w0.heap.size ≤ g) (h : Ext w0 w) (f : Array Value → Array Value) : Ext w0 (Go.Sort.mapBlock w g f) :=
  ⟨h.os, h.tape, h.output, by unfold Go.Sort.mapBlock; simpa using h.size, fun k hk => by
    show (w.heap.modify g _)[k]? = _
    rw [Array.getElem?_modify, if_neg (by omega)]
    exact h.block hk⟩
theorem ext_sortWorld {α : Type} [Inhabited α] {enc : α → Value} {w0 w : World} {g : Nat} (hg : w0.heap.size ≤ g) (h : Ext w0 w) (m : Nat) (dk : Array α) (os : Array Obj) : Ext w0 (Go.Proofs.sortWorld enc w g 0 m dk os) := by
  unfold Go.Proofs.sortWorld Go.Sort.putRow
  exact (ext_mapBlock hg (show Ext w0 (Go.Sort.ahead w m) from ⟨h.os, h.tape, h.output, h.size, fun k hk => h.block hk⟩) _).trans (grow_extn _ 0 os)
theorem perm_of_in {α : Type} [Inhabited α] {d d' : Array α} (h : Go.Sort.PermIn 0 d.size d d') : d'.size = d.size ∧ d'.toList.Perm d.toList := by
  have hs : d'.size = d.size := h.1
  refine ⟨hs, ?_⟩
  have h3 := h.2.2
  have e1 : d'.extract 0 d.size = d' := by rw [← hs]; exact Array.extract_size
  have e2 : d.extract 0 d.size = d := Array.extract_size
  rw [e1, e2] at h3
  exact h3

/-- rows that read in w1 -/
abbrev RowsAt (w1 : World) := {t : Value × List Int // Sl intR w1 t.1 t.2}
theorem rows_items {w1 w : World} : ∀ {xs : List (List Int)} {cs : List Value} {F : List Nat}, OwnCells (atO (slR intR) w1) w cs xs F → ∃ its : List (RowsAt w1), its.map (fun t => t.1.1) = cs ∧ its.map (fun t => t.1.2) = xs
  | [], _, _, h => ⟨[], by rw [h.1]; rfl, rfl⟩
  | x :: xs, _, _, ⟨c, d, F1, F2, h1, h2, h3, h4⟩ => by
    obtain ⟨its, k1, k2⟩ := rows_items h4
    obtain ⟨⟨v, rfl, hv⟩, _⟩ := h3
    exact ⟨⟨(v, x), hv⟩ :: its, by rw [List.map_cons, k1, h1]; rfl, by rw [List.map_cons, k2]⟩
theorem rows_of_items {w1 w : World} : ∀ its : List (RowsAt w1), OwnCells (atO (slR intR) w1) w (its.map fun t => t.1.1) (its.map fun t => t.1.2) []
  | [] => ⟨rfl, rfl⟩
  | t :: its => ⟨[t.1.1], its.map (fun t => t.1.1), [], [], rfl, rfl, ⟨⟨t.1.1, rfl, t.2⟩, rfl⟩, rows_of_items its⟩
instance (w1 : World) : Inhabited (RowsAt w1) := ⟨⟨(.slice none 0 0, []), ⟨none, 0, rfl, ⟨Nat.zero_le _, Nat.zero_le _⟩, fun i hi => absurd hi (Nat.not_lt_zero _)⟩⟩⟩

theorem sort_rows (v : Value) (g : List (List Int)) (w1 w : World) (base : Nat) (hb : Bld (atO (slR intR) w1) w base 40 v g []) (h1 : w1.heap.size ≤ base) (hx : Ext w1 w) (hl : g.length ≤ 1048576) :
    Calls Try.prog 40 #[v, .func (.func 41) #[] #[]] w fun e w2 => ∃ ys, e = .returned (.tuple #[]) ∧ Bld (atO (slR intR) w1) w2 base 40 v ys [] ∧ ys.Perm g ∧ ys.Pairwise (fun x y => ¬ y < x) ∧ Ext w1 w2 := by
  have hb0 := hb
  obtain ⟨cs, hown, hc, hne, hnd, hbs⟩ := hb
  have hown0 := hown
  obtain ⟨hcl, ⟨rfl, hn0⟩ | ⟨gb, cap, cur, rfl, hbg, hh, hnc, hcm, hcs, htk⟩⟩ := hown
  · have hg0 : g = [] := List.eq_nil_of_length_eq_zero hn0
    subst hg0
    refine Calls.mono (AnyF.slices_SortFunc_none { lShSortG with } none 0 _ w) ?_
    rintro e w2 ⟨rfl, rfl⟩
    exact ⟨[], rfl, hb0, List.Perm.refl _, List.Pairwise.nil, hx⟩
  · obtain ⟨its, k1, k2⟩ := rows_items hc
    have hil : its.length = g.length := by rw [← k2, List.length_map]
    have hH : Go.Sort.Holds (fun t : RowsAt w1 => t.1.1) w gb 0 its.toArray := by
      intro j hj
      rw [List.size_toArray] at hj
      refine ⟨?_, frozen_of_row w gb _ cur _ hh⟩
      rw [Nat.zero_add, cell_of_row w gb j cur _ (0, 0) hh]
      have hcj : cs[j]? = some its[j].1.1 := by rw [← k1, List.getElem?_map, List.getElem?_eq_getElem hj]; rfl
      rw [← htk, List.getElem?_take, if_pos (by show j < g.length * 1; omega)] at hcj
      rw [getElem!_pos its.toArray j (by rw [List.size_toArray]; exact hj), List.getElem_toArray, ← hcj, Array.getElem?_toList]
    have h1c : OneCell (fun t : RowsAt w1 => t.1.1) := fun t => by
      obtain ⟨A, c, e, _⟩ := t.2.form
      show t.1.1.oneCell' = true
      rw [e]; simp [Value.oneCell']
    have eg : ∀ (args : Array Value) (w : World), (callFunc 41 args).run Try.prog w = .ok (.enter 41 args) w := fun _ _ => by kernel_rfl
    have hC : CmpLays1 Try.prog 41 #[] (fun t : RowsAt w1 => t.1.1) (fun x y => cmpL x.1.2 y.1.2) gb 0 its.toArray.size w := fun m os dk _ x y =>
      (slices_Compare_i x.1.1 y.1.1 x.1.2 y.1.2 _ (x.2.mono (ext_sortWorld (Nat.le_trans h1 hbg) hx m dk os)) (y.2.mono (ext_sortWorld (Nat.le_trans h1 hbg) hx m dk os))).mono fun e w2 h => ⟨h.1, 0, #[], by rw [← h.2, Go.Sort.grow_empty]; rfl⟩
    have hcon := Any.slices_SortFunc lShSortG (fun t : RowsAt w1 => t.1.1) h1c (fun x y => cmpL x.1.2 y.1.2) (swo_list fun t : RowsAt w1 => t.1.2) 41 #[] gb 0 cap its.toArray w eg hC hH (block_lt hh) (by rw [List.size_toArray]; omega)
    rw [List.size_toArray, hil] at hcon
    refine Calls.mono hcon ?_
    rintro e w2 ⟨rfl, d', q, os, hp, hs, rfl⟩
    have hp2 : Go.Sort.PermIn 0 its.toArray.size its.toArray d' := by rw [List.size_toArray, hil]; exact hp
    obtain ⟨hds0, hperm⟩ := perm_of_in hp2
    have hds : d'.size = its.length := hds0.trans (List.size_toArray)
    have hput : Go.Sort.putRow (fun t : RowsAt w1 => t.1.1) (Go.Sort.ahead w q) gb 0 d' = (w.drewN q).setCells gb 0 (d'.toList.map fun t => t.1.1) := by
      have := Go.Lib.putRow_eq_setCells (fun t : RowsAt w1 => t.1.1) w gb 0 its.toArray d'.toList q hH (by rw [Array.length_toList]; exact hds0)
      simpa using this
    have hW : Go.Proofs.sortWorld (fun t : RowsAt w1 => t.1.1) w gb 0 q d' os = sortedW w gb q (d'.toList.map fun t => t.1.1) os := by
      unfold Go.Proofs.sortWorld sortedW
      rw [hput]
    rw [hW]
    have hl1 : (d'.toList.map fun t : RowsAt w1 => t.1.1).length = cs.length := by rw [List.length_map, Array.length_toList, hds, ← k1, List.length_map]
    have hl2 : (d'.toList.map fun t : RowsAt w1 => t.1.2).length = g.length := by rw [List.length_map, Array.length_toList, hds, hil]
    refine ⟨d'.toList.map fun t => t.1.2, rfl, ⟨d'.toList.map fun t => t.1.1, ?_, rows_of_items _, hne, hnd, hbs⟩, ?_, ?_, sortedW_ext (Nat.le_trans h1 hbg) hx _ _ _⟩
    · rw [hl2]; exact ownsRow_set hown0 hl1 q os
    · rw [← k2]
      exact hperm.map _
    · rw [List.pairwise_map, List.pairwise_iff_getElem]
      intro i j hi hj hij
      rw [Array.length_toList] at hi hj
      have := hs i j (Nat.zero_le _) hij (by omega)
      rw [getElem!_pos _ _ (by omega), getElem!_pos _ _ (by omega)] at this
      unfold ltOf at this
      rw [decide_eq_false_iff_not, cmpL_lt] at this
      simpa using this

/-- entities that read in w, with their cells and blocks -/
abbrev EntsAt (w : World) := {t : List Value × Entity × List Nat // entityO.own w t.1 t.2.1 t.2.2}
instance (w : World) : Inhabited (EntsAt w) := ⟨⟨([.int .i64 0, .slice none 0 0], ⟨0, []⟩, []), ⟨.slice none 0 0, rfl, by unfold I64; decide, .inl ⟨rfl, rfl, none, 0, rfl, Nat.zero_le _⟩⟩⟩⟩

theorem sort_ents (v : Value) (xs : List Entity) (F : List Nat) (w : World) (base : Nat) (hb : Bld entityO w base 42 v xs F) (hl : xs.length ≤ 1048576) :
    Calls Try.prog 46 #[v, .func (.func 47) #[] #[]] w fun e w2 => ∃ ys F2, e = .returned (.tuple #[]) ∧ Bld entityO w2 base 42 v ys F2 ∧ ys.Perm xs ∧ SortedK Entity.id ys ∧ ∀ w0 : World, w0.heap.size ≤ base → Ext w0 w → Ext w0 w2 := by
  have hb0 := hb
  have hlt := hb.lt
  obtain ⟨cs, hown, hc, hne, hnd, hbs⟩ := hb
  have hown0 := hown
  obtain ⟨hcl, ⟨rfl, hn0⟩ | ⟨gb, cap, cur, rfl, hbg, hh, hnc, hcm, hcs, htk⟩⟩ := hown
  · have hg0 : xs = [] := List.eq_nil_of_length_eq_zero hn0
    subst hg0
    refine Calls.mono (AnyF.slices_SortFunc_none lShSortE none 0 _ w) ?_
    rintro e w2 ⟨rfl, rfl⟩
    exact ⟨[], F, rfl, hb0, List.Perm.refl _, List.Pairwise.nil, fun _ _ h => h⟩
  · obtain ⟨its, k1, k2, k3⟩ := OwnCells.items hc
    have hil : its.length = xs.length := by rw [← k2, List.length_map]
    have hk : ∀ t : EntsAt w, t.1.1.length = 2 := fun t => entityO.len (entityO.own_rd t.2)
    have hflat := flatK_flat (fun t : EntsAt w => t.1.1) 2 (by decide) hk its.toArray
    have hH : Go.Sort.HoldsK (fun t : EntsAt w => t.1.1) 2 w gb 0 its.toArray := by
      unfold Go.Sort.HoldsK
      rw [hflat]
      have k1' : its.toArray.toList.flatMap (fun t : EntsAt w => t.1.1) = cs := k1
      rw [k1']
      intro j hj
      rw [List.size_toArray] at hj
      refine ⟨?_, frozen_of_row w gb _ cur _ hh⟩
      rw [Nat.zero_add, cell_of_row w gb j cur _ (0, 0) hh]
      have hcj : cs[j]? = some cs[j] := List.getElem?_eq_getElem hj
      rw [getElem!_pos cs.toArray j (by rw [List.size_toArray]; exact hj), List.getElem_toArray]
      show cur[j]? = some cs[j]
      rw [← hcj, ← htk, List.getElem?_take, if_pos (by rw [← hcl]; exact hj), Array.getElem?_toList]
    have eg : ∀ (args : Array Value) (w : World), (callFunc 47 args).run Try.prog w = .ok (.enter 47 args) w := fun _ _ => by kernel_rfl
    have hC : CmpLays Try.prog 47 #[] (fun t : EntsAt w => t.1.1) 2 (fun x y => cmpI x.1.2.1.id y.1.2.1.id) gb 0 its.toArray.size w := fun m os dk _ x y => by
      obtain ⟨m1, e1, _⟩ := x.2
      obtain ⟨m2, e2, _⟩ := y.2
      have e3 : (#[Value.agg (List.toArray x.1.1), Value.agg (List.toArray y.1.1)] ++ #[] : Array Value) = #[.agg #[.int .i64 x.1.2.1.id, m1], .agg #[.int .i64 y.1.2.1.id, m2]] := by rw [e1, e2]; rfl
      exact (congrArg (fun args => Calls Try.prog 47 args (Go.Proofs.sortWorldK (fun t : EntsAt w => t.1.1) 2 w gb 0 m dk os) fun e w' => e = .returned (.int .i64 (cmpI x.1.2.1.id y.1.2.1.id)) ∧ Grn (Go.Proofs.sortWorldK (fun t : EntsAt w => t.1.1) 2 w gb 0 m dk os) w') e3).mpr (impl_byID _ _ _ _ _)
    have hcon := AnyQ.slices_SortFunc lShSortE 2 (fun _ => by kernel_rfl) (fun _ => by kernel_rfl) (fun t : EntsAt w => t.1.1) hk (fun t => ent_one w t.1.1 t.1.2.1 (entityO.own_rd t.2)) (fun x y => cmpI x.1.2.1.id y.1.2.1.id) (swo_key fun t : EntsAt w => t.1.2.1.id) 47 #[] gb 0 cap its.toArray w eg hC hH (block_lt hh) (by rw [List.size_toArray]; omega)
    rw [List.size_toArray, hil] at hcon
    refine Calls.mono hcon ?_
    rintro e w2 ⟨rfl, d', q, os, hp, hs, rfl⟩
    have hp2 : Go.Sort.PermIn 0 its.toArray.size its.toArray d' := by rw [List.size_toArray, hil]; exact hp
    obtain ⟨hds0, hperm⟩ := perm_of_in hp2
    have hds : d'.size = its.length := hds0.trans (List.size_toArray)
    have hflat2 := flatK_flat (fun t : EntsAt w => t.1.1) 2 (by decide) hk d'
    have hl1 : (d'.toList.flatMap fun t : EntsAt w => t.1.1).length = cs.length := by rw [flatMap_len hk, Array.length_toList, hds, hcl, hil]; rfl
    have hput : Go.Sort.putRowK (fun t : EntsAt w => t.1.1) 2 (Go.Sort.ahead w q) gb 0 d' = (w.drewN q).setCells gb 0 (d'.toList.flatMap fun t => t.1.1) := by
      unfold Go.Sort.putRowK
      rw [hflat2]
      have := Go.Lib.putRow_eq_setCells id w gb 0 (Go.Sort.flatK (fun t : EntsAt w => t.1.1) 2 its.toArray) (d'.toList.flatMap fun t => t.1.1) q hH (by rw [Go.Sort.size_flatK, hl1, hcl, List.size_toArray, hil]; rfl)
      rw [this, List.map_id]
    have hW : Go.Proofs.sortWorldK (fun t : EntsAt w => t.1.1) 2 w gb 0 q d' os = sortedW w gb q (d'.toList.flatMap fun t => t.1.1) os := by
      unfold Go.Proofs.sortWorldK sortedW
      rw [hput]
    rw [hW]
    have hl2 : (d'.toList.map fun t : EntsAt w => t.1.2.1).length = xs.length := by rw [List.length_map, Array.length_toList, hds, hil]
    have hF : (d'.toList.flatMap fun t : EntsAt w => t.1.2.2).Perm F := by rw [← k3]; exact flatMap_permF hperm
    refine ⟨d'.toList.map fun t => t.1.2.1, d'.toList.flatMap fun t => t.1.2.2, rfl, ⟨d'.toList.flatMap fun t => t.1.1, ?_, OwnCells.of_items _ (fun b hb => ?_), fun g9 h9 h10 => hne g9 h9 (hF.mem_iff.1 h10), hF.nodup_iff.2 hnd, fun b hb => hbs b (hF.mem_iff.1 hb)⟩, ?_, ?_, fun w0 h0 hx => sortedW_ext (Nat.le_trans h0 hbg) hx _ _ _⟩
    · rw [hl2]; exact ownsRow_set hown0 hl1 q os
    · have hbF := hF.mem_iff.1 hb
      exact sortedW_keep w gb q _ os (hlt.1 b hbF) (fun e => hne gb rfl (e ▸ hbF))
    · rw [← k2]
      exact hperm.map _
    · unfold SortedK
      rw [List.pairwise_map, List.pairwise_iff_getElem]
      intro i j hi hj hij
      rw [Array.length_toList] at hi hj
      have := hs i j (Nat.zero_le _) hij (by omega)
      rw [getElem!_pos _ _ (by omega), getElem!_pos _ _ (by omega)] at this
      unfold ltOf at this
      rw [decide_eq_false_iff_not, cmpI_lt] at this
      simpa using this

/-- an append of a slice that reads in w1, in a plain region -/
theorem wpList_appPS {P : Program} {α : Type} {R : Rep α} {p : List Value → α → Prop} {ops : Array Oper} {rest : List Oper} {o : Oper} {a : Act} {w : World} {Q : Exit → Act → World → Prop} {t e : TypeId} {bytes : Nat} (hsz : 0 < R.n) (E : ElemT P t e R.n bytes) (hby : bytes ≤ 128)
    (hone : ∀ (w : World) cs x, R.rd w cs x → ∀ u ∈ cs, u.oneCell' = true)
    (hgd : o.guard = none) (s x : Operand) (ho : o.op = .call { callee := .builtin .append, args := #[s, x], argTypes := #[t, t] })
    {base : Nat} {v : Value} {xs ys : List α} (hb : Bld (atP R p) w base e v xs []) (hs : a.eval s = v) {A : Option Addr} {n k : Nat} (hx : a.eval x = .slice A n k) {w1 : World} (hy : Sl R w1 (.slice A n k) ys) (hxw : Ext w1 w) (hp : ∀ cs x, R.rd w1 cs x → p cs x)
    (hbytes : xs.length + n ≤ 1099511627776) (hbase : base ≤ w.heap.size) {w0 : World} (h0 : w0.heap.size ≤ base) (hx0 : Ext w0 w)
    (h : ∀ v' w', Bld (atP R p) w' base e v' (xs ++ ys) [] → Ext w0 w' → wpList P ops Q rest (a.put o.dst v') w') : wpList P ops Q (o :: rest) a w :=
  wpList_plain hgd fun K hK => by
    have := step_appPS (K := K) (Q := Q) (ops := ops) (Z := True) hsz E hby hone hgd s x ho hb hs hx hy hxw hp hbytes hbase h0 hx0 fun v' w' h1 h2 _ => hK _ _ (h v' w' h1 h2)
    rwa [if_pos (by simp [Region.wanted, hgd])] at this
theorem Bld.of_p {α : Type} {R : Rep α} {w1 w : World} {base : Nat} {e : TypeId} {v : Value} {xs : List α} (h : Bld (atP R (R.rd w1)) w base e v xs []) : Bld (atO R w1) w base e v xs [] := by
  obtain ⟨cs, h1, h2, h3, h4, h5⟩ := h
  refine ⟨cs, h1, ?_, h3, h4, h5⟩
  clear h1 h3
  have : ∀ {xs : List α} {cs : List Value} {F : List Nat}, OwnCells (atP R (R.rd w1)) w cs xs F → OwnCells (atO R w1) w cs xs F := by
    intro xs
    induction xs with
    | nil => exact fun h => h
    | cons x xs ih =>
      rintro cs F ⟨c, d, F1, F2, a1, a2, a3, a4⟩
      exact ⟨c, d, F1, F2, a1, a2, ⟨a3.1.1, a3.2⟩, ih a4⟩
  exact this h2

set_option maxHeartbeats 400000 in
set_option maxRecDepth 20000 in
theorem slices_Clone_rows (v : Value) (g : List (List Int)) (w : World) (h : Sl (slR intR) w v g) (hl : g.length ≤ 1048576) :
    Calls Try.prog 39 #[v] w fun e w2 => ∃ v2, e = .returned v2 ∧ Bld (atO (slR intR) w) w2 w.heap.size 40 v2 g [] ∧ Ext w w2 := by
  obtain ⟨A, cap, rfl, hm⟩ := h.form
  have q := fun (W : World) (a : Option Addr) (n c n' c' : Nat) => Lib.run_eql_slice_nil (P := Try.prog) W 23 40 a n c n' c' Try.underlying23
  cases A with
  | none =>
    have h0 : g = [] := by
      cases g with
      | nil => rfl
      | cons y ys =>
        obtain ⟨_, _, _, e, _⟩ := h.at_ (show 0 < (y :: ys).length by simp)
        cases e
    subst h0
    go_enter Try.func39, Try.ntmps39
    go_wp2
    go_ret
    exact ⟨_, rfl, Bld.nil _ _ _, Ext.refl _⟩
  | some ad =>
    go_enter Try.func39, Try.ntmps39
    go_wp2_with (at_builtin; refine wpList_appPS (R := slR intR) (p := (slR intR).rd w) (by decide) elemInts (by decide) one_sl rfl _ _ rfl (Bld.lit (R := atP (slR intR) ((slR intR).rd w)) w (Nat.le_refl _) _) rfl rfl h ((Ext.refl _).alloc _) (fun _ _ h => h) (by simp; omega) (by simp) (w0 := w) (Nat.le_refl _) ((Ext.refl _).alloc _) ?_; intro v9 w9 hB9 hE9)
    go_ret
    exact ⟨_, rfl, (by simpa using hB9 : Bld (atP (slR intR) ((slR intR).rd w)) w9 w.heap.size _ v9 g []).of_p, hE9⟩

set_option maxHeartbeats 400000 in
set_option maxRecDepth 20000 in
theorem slices_Clone_ints (v : Value) (xs : List Int) (w : World) (h : Sl intR w v xs) (hl : xs.length ≤ 1048576) :
    Calls Try.prog 45 #[v] w fun e w2 => ∃ v2 F, e = .returned v2 ∧ OwnSl intO w2 v2 xs F ∧ NewF w F ∧ Ext w w2 := by
  obtain ⟨A, cap, rfl, hm⟩ := h.form
  have q := fun (W : World) (a : Option Addr) (n c n' c' : Nat) => Lib.run_eql_slice_nil (P := Try.prog) W 40 3 a n c n' c' Try.underlying40
  cases A with
  | none =>
    have h0 : xs = [] := by
      cases xs with
      | nil => rfl
      | cons y ys =>
        obtain ⟨_, _, _, e, _⟩ := h.at_ (show 0 < (y :: ys).length by simp)
        cases e
    subst h0
    go_enter Try.func45, Try.ntmps45
    go_wp2
    go_ret
    exact ⟨_, [], rfl, .inl ⟨rfl, rfl, none, 0, rfl, Nat.zero_le _⟩, .nil _, Ext.refl _⟩
  | some ad =>
    go_enter Try.func45, Try.ntmps45
    go_wp2_with (at_builtin; refine wpList_appn elemInt rfl _ _ rfl (Bld.lit w (Nat.le_refl _) _) rfl rfl (h.mono ((Ext.refl _).alloc _)) (by simp; omega) (by simp) ?_; intro v9 w9 hB9 hE9)
    go_ret
    obtain ⟨F', d1, d2, d3⟩ := hB9.done
    exact ⟨_, F', rfl, by simpa using d1, ⟨d2, d3⟩, hE9 w (Nat.le_refl _) ((Ext.refl _).alloc _)⟩
end Go.Proofs.Ytfcbapaojoecgab
