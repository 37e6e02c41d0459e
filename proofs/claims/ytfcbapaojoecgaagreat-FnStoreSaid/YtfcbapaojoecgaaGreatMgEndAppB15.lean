/-
  SEVERAL SMALL TEXTS LAID TOGETHER: PutS, AppSp.
-/
import Derived.Test.YtfcbapaojoecgaaGreatMgEndAppB14
import Derived.Test.YtfcbapaojoecgaaGreatMgEndAppB5
import Derived.Test.YtfcbapaojoecgaaGreatMgEndAppB12
import Derived.Test.YtfcbapaojoecgaaGreatMgEndAppB8

namespace Go.Proofs.YtfcbapaojoecgaaGreat
open Go.RowKit

set_option maxHeartbeats 400000 in
set_option maxRecDepth 20000 in
theorem spec_l30Newer (v u : Value) (x y : Record) (w : World) (h : RecAt w v x) (k : RecAt w u y) :
    Calls Tryz.prog 87 #[v, u] w fun e w2 => e = .returned (.bool (newR x y)) ∧ Ext w w2 := by
  have hA := h
  have kA := k
  obtain ⟨f, rfl, hok, hs⟩ := h
  obtain ⟨g, rfl, kok, ks⟩ := k
  have xb : Ext w ((w.alloc (.cells #[.int .i64 x.source, .int .i64 x.key, .int .i64 x.version, f] 72)).alloc (.cells #[.int .i64 y.source, .int .i64 y.key, .int .i64 y.version, g] 72)) := ((Ext.refl w).alloc _).alloc _
  by_cases hv : x.version = y.version
  · have hv1 : (x.version != y.version) = false := by simp [hv]
    have HN := hid (show newR x y = decide (0 < cmpR x y) by unfold newR; rw [if_pos hv])
    have h64 := cmpR_64 x y
    clear hv
    go_enter Tryz.func87, Tryz.ntmps87
    go_wp2_with fail
    refine (spec_CompareRecords _ _ x y _ (hA.mono xb) (kA.mono xb)).mono ?_
    rintro e w2 ⟨rfl, x2⟩
    obtain ⟨c, hc⟩ : ∃ c, c = cmpR x y := ⟨_, rfl⟩
    rw [← hc] at HN h64 ⊢
    clear hc
    go_wp2
    go_ret
    exact ⟨ret_bool HN.out.symm, xb.trans x2⟩
  · have hv1 : (x.version != y.version) = true := by simp [hv]
    have HN := hid (show newR x y = decide (y.version < x.version) by unfold newR; rw [if_neg hv])
    clear hv
    go_enter Tryz.func87, Tryz.ntmps87
    go_wp2
    go_ret
    exact ⟨ret_bool HN.out.symm, xb⟩

/-- the steps of the walk, by cases -/
theorem putSt_a {r x : Record} {out : List Record} {dn : Bool} (h : dn = false ∧ recID r < recID x) : putSt r (out, dn) x = (out ++ [r] ++ [x], true) := by unfold putSt; rw [if_pos h]
theorem putSt_eqn {r x : Record} {out : List Record} {dn : Bool} (h : recID x = recID r) (k : newR r x = true) : putSt r (out, dn) x = (out ++ [r], true) := by unfold putSt; rw [if_neg (fun e => by have := e.2; omega), if_pos h, if_pos k]
theorem putSt_eqo {r x : Record} {out : List Record} {dn : Bool} (h : recID x = recID r) (k : newR r x = false) : putSt r (out, dn) x = (out ++ [x], true) := by unfold putSt; rw [if_neg (fun e => by have := e.2; omega), if_pos h, if_neg (by rw [k]; simp)]
theorem putSt_ne {r x : Record} {out : List Record} {dn : Bool} (h : ¬ (dn = false ∧ recID r < recID x)) (k : ¬ recID x = recID r) : putSt r (out, dn) x = (out ++ [x], dn) := by unfold putSt; rw [if_neg h, if_neg k]

theorem putSt_len (r : Record) : ∀ (xs : List Record) (p : List Record × Bool), (xs.foldl (putSt r) p).1.length ≤ p.1.length + 2 * xs.length
  | [], p => by simp
  | x :: xs, p => by
    have h1 := putSt_len r xs (putSt r p x)
    have h2 : (putSt r p x).1.length ≤ p.1.length + 2 := by
      unfold putSt
      repeat' split
      all_goals simp
    simp only [List.foldl_cons, List.length_cons]; omega

set_option maxHeartbeats 8000000 in
set_option maxRecDepth 20000 in
theorem spec_l30Put (v u : Value) (xs : List Record) (r : Record) (w : World) (h : Sl recordR w v xs) (hr : RecAt w u r) (hl : xs.length ≤ 1000) (hf : r.fields.length ≤ 1048576) (hlf : ∀ x ∈ xs, x.fields.length ≤ 1048576) :
    Calls Tryz.prog 37 #[v, u] w fun e w2 => ∃ v2 F, e = .returned v2 ∧ Bld recordO w2 w.heap.size 72 v2 (putF xs r) F ∧ Ext w w2 := by
  have hrA := hr
  obtain ⟨f, rfl, hrok, hs⟩ := hr
  obtain ⟨Af, cf, rfl, _⟩ := hs.form
  obtain ⟨A, cap, rfl, _⟩ := h.form
  have xb : Ext w (w.alloc (.cells #[.int .i64 r.source, .int .i64 r.key, .int .i64 r.version, .slice Af r.fields.length cf] 72)) := (Ext.refl w).alloc _
  obtain ⟨W0, hW0⟩ : ∃ W0, W0 = (w.alloc (.cells #[.int .i64 r.source, .int .i64 r.key, .int .i64 r.version, .slice Af r.fields.length cf] 72)) := ⟨_, rfl⟩
  have HBX := hid (show ∀ W, Ext W0 W → W.cell? ⟨w.heap.size, 0, none⟩ = some (.int .i64 r.source) ∧ W.cell? ⟨w.heap.size, 1, none⟩ = some (.int .i64 r.key) ∧ W.cell? ⟨w.heap.size, 2, none⟩ = some (.int .i64 r.version) ∧ W.cell? ⟨w.heap.size, 3, none⟩ = some (.slice Af r.fields.length cf) from fun W y => by rw [hW0] at y; exact ⟨y.box.1 0, y.box.1 1, y.box.1 2, y.box.1 3⟩)
  rw [← hW0] at xb
  have HX0 := hid xb
  have HRA0 := hid hrA
  have HRK := hid hrok
  have HLF := hid hlf
  have HSL := hid (show ∀ W, Ext W0 W → Sl recordR W (.slice A xs.length cap) xs from fun W y => (h.mono xb).mono y)
  clear hrA hlf hrok hs h xb
  go_enter Tryz.func37, Tryz.ntmps37
  go_wp2_with fail
  have hsz : W0.heap.size = w.heap.size + 1 := by rw [hW0]; simp
  rw [← hW0]
  clear hW0
  rw [← hsz]
  clear hsz
  go_loopw [5, 6, 7] (fun t d i wr => ∃ (k : Nat) (out : List Record) (dn : Bool) (F : List Nat), k ≤ xs.length ∧ i = .int .i64 k ∧ Bld recordO wr W0.heap.size 72 t out F ∧ d = .bool dn ∧ (xs.take k).foldl (putSt r) ([], false) = (out, dn) ∧ Ext W0 wr) (fun _ _ i _ => xs.length - (intOf i).toNat)
  case atStart => exact ⟨0, [], false, [], Nat.zero_le _, rfl, (Bld.lit W0 (Nat.le_refl _) _), rfl, rfl, (Ext.refl _).alloc _⟩
  case round =>
    obtain ⟨k, out, dn, F, hk, rfl, hB, rfl, hF, hx⟩ := hrel
    obtain ⟨At, ct, et, _⟩ := hB.sl.form
    subst et
    have hol : out.length ≤ 2 * k := by
      have := putSt_len r (xs.take k) ([], false)
      rw [hF, List.length_take] at this
      simp only [List.length_nil] at this
      omega
    have HF := hid hF
    clear hF
    by_cases hlt : k < xs.length
    · obtain ⟨bk, off, A2, cap2, eA, hok, hsl, c0, c1, c2, c3⟩ := (HSL.out _ (Ext.refl _)).record hlt
      subst eA
      have HCK := hid (show ∀ W, Ext W0 W → W.cell? ⟨bk, off + k * 4, none⟩ = some (.int .i64 xs[k].source) ∧ W.cell? ⟨bk, off + k * 4 + 1, none⟩ = some (.int .i64 xs[k].key) ∧ W.cell? ⟨bk, off + k * 4 + 2, none⟩ = some (.int .i64 xs[k].version) ∧ W.cell? ⟨bk, off + k * 4 + 3, none⟩ = some (.slice A2 xs[k].fields.length cap2) from fun W y => ⟨y.cell c0, y.cell c1, y.cell c2, y.cell c3⟩)
      have HOKK := hid hok
      have HKA := hid (show ∀ W, Ext W0 W → RecAt W (.agg #[.int .i64 xs[k].source, .int .i64 xs[k].key, .int .i64 xs[k].version, .slice A2 xs[k].fields.length cap2]) xs[k] from fun W y => ⟨_, rfl, hok, hsl.mono y⟩)
      have HRA := hid (show ∀ W, Ext W0 W → RecAt W (.agg #[.int .i64 r.source, .int .i64 r.key, .int .i64 r.version, .slice Af r.fields.length cf]) r from fun W y => HRA0.out.mono (HX0.out.trans y))
      have hlk : xs[k].fields.length ≤ 1099511627776 := Nat.le_trans (HLF.out _ (List.getElem_mem hlt)) (by decide)
      have HSTEP := hid (show (xs.take (k + 1)).foldl (putSt r) ([], false) = putSt r (out, dn) xs[k] from by rw [fold_step (putSt r) _ xs k hlt, HF.out])
      obtain ⟨ik, hik⟩ : ∃ i, i = recID xs[k] := ⟨_, rfl⟩
      obtain ⟨ir, hir⟩ : ∃ i, i = recID r := ⟨_, rfl⟩
      obtain ⟨nw, hnw⟩ : ∃ n, n = newR r xs[k] := ⟨_, rfl⟩
      have HIDK := hid (show ∀ W, Ext W0 W → Calls Tryz.prog 41 #[.agg #[.int .i64 xs[k].source, .int .i64 xs[k].key, .int .i64 xs[k].version, .slice A2 xs[k].fields.length cap2]] W fun e w2 => e = .returned (.int .i64 ik) ∧ Ext W w2 from fun W y => by rw [hik]; exact spec_RecordID _ _ _ (HKA.out _ y))
      have HIDR := hid (show ∀ W, Ext W0 W → Calls Tryz.prog 41 #[.agg #[.int .i64 r.source, .int .i64 r.key, .int .i64 r.version, .slice Af r.fields.length cf]] W fun e w2 => e = .returned (.int .i64 ir) ∧ Ext W w2 from fun W y => by rw [hir]; exact spec_RecordID _ _ _ (HRA.out _ y))
      have HNW := hid (show ∀ W, Ext W0 W → Calls Tryz.prog 87 #[.agg #[.int .i64 r.source, .int .i64 r.key, .int .i64 r.version, .slice Af r.fields.length cf], .agg #[.int .i64 xs[k].source, .int .i64 xs[k].key, .int .i64 xs[k].version, .slice A2 xs[k].fields.length cap2]] W fun e w2 => e = .returned (.bool nw) ∧ Ext W w2 from fun W y => by rw [hnw]; exact spec_l30Newer _ _ _ _ _ (HRA.out _ y) (HKA.out _ y))
      have HIK := hid (And.intro hik (And.intro hir hnw))
      clear hik hir hnw c0 c1 c2 c3 hok hsl
      cases dn with
      | true =>
        have y0 : ∀ z : ExtOf wr, z.1.cell? ⟨w.heap.size, 0, none⟩ = _ := fun z => (HBX.out _ ((hx).trans z.2)).1
        have z0 : ∀ z : ExtOf wr, z.1.cell? ⟨bk, off + k * 4, none⟩ = _ := fun z => (HCK.out _ ((hx).trans z.2)).1
        have y1 : ∀ z : ExtOf wr, z.1.cell? ⟨w.heap.size, 1, none⟩ = _ := fun z => (HBX.out _ ((hx).trans z.2)).2.1
        have z1 : ∀ z : ExtOf wr, z.1.cell? ⟨bk, off + k * 4 + 1, none⟩ = _ := fun z => (HCK.out _ ((hx).trans z.2)).2.1
        have y2 : ∀ z : ExtOf wr, z.1.cell? ⟨w.heap.size, 2, none⟩ = _ := fun z => (HBX.out _ ((hx).trans z.2)).2.2.1
        have z2 : ∀ z : ExtOf wr, z.1.cell? ⟨bk, off + k * 4 + 2, none⟩ = _ := fun z => (HCK.out _ ((hx).trans z.2)).2.2.1
        have y3 : ∀ z : ExtOf wr, z.1.cell? ⟨w.heap.size, 3, none⟩ = _ := fun z => (HBX.out _ ((hx).trans z.2)).2.2.2
        have z3 : ∀ z : ExtOf wr, z.1.cell? ⟨bk, off + k * 4 + 3, none⟩ = _ := fun z => (HCK.out _ ((hx).trans z.2)).2.2.2
        go_wp2_with fail
        refine wp_region_ext (by kernel_rfl) (by kernel_rfl) ?_
        repeat (go_big_quiet_step ((fail)))
        refine wpQuiet_nil ?_
        rintro w6 ⟨⟨_, x6⟩, rfl⟩
        clear y0 y1 y2 y3 z0 z1 z2 z3
        have x6w := hx.trans x6
        by_cases heq : ik = ir
        · have heqB : (ik == ir) = true := by simp [heq]
          have HEQ := hid heq
          clear heq
          have y0 : ∀ z : ExtOf w6, z.1.cell? ⟨w.heap.size, 0, none⟩ = _ := fun z => (HBX.out _ ((x6w).trans z.2)).1
          have z0 : ∀ z : ExtOf w6, z.1.cell? ⟨bk, off + k * 4, none⟩ = _ := fun z => (HCK.out _ ((x6w).trans z.2)).1
          have y1 : ∀ z : ExtOf w6, z.1.cell? ⟨w.heap.size, 1, none⟩ = _ := fun z => (HBX.out _ ((x6w).trans z.2)).2.1
          have z1 : ∀ z : ExtOf w6, z.1.cell? ⟨bk, off + k * 4 + 1, none⟩ = _ := fun z => (HCK.out _ ((x6w).trans z.2)).2.1
          have y2 : ∀ z : ExtOf w6, z.1.cell? ⟨w.heap.size, 2, none⟩ = _ := fun z => (HBX.out _ ((x6w).trans z.2)).2.2.1
          have z2 : ∀ z : ExtOf w6, z.1.cell? ⟨bk, off + k * 4 + 2, none⟩ = _ := fun z => (HCK.out _ ((x6w).trans z.2)).2.2.1
          have y3 : ∀ z : ExtOf w6, z.1.cell? ⟨w.heap.size, 3, none⟩ = _ := fun z => (HBX.out _ ((x6w).trans z.2)).2.2.2
          have z3 : ∀ z : ExtOf w6, z.1.cell? ⟨bk, off + k * 4 + 3, none⟩ = _ := fun z => (HCK.out _ ((x6w).trans z.2)).2.2.2
          go_wp2_with fail
          refine wp_region_ext (by kernel_rfl) (by kernel_rfl) ?_
          repeat (go_big_quiet_step (((first | (go_at_call 41; with_reducible exact quiet_ext (HIDK.out _ ((x6w).trans (Subtype.property _)))) | (go_at_call 41; exact quiet_ext (HIDR.out _ ((x6w).trans (Subtype.property _))))))))
          refine wpQuiet_nil ?_
          rintro w9 ⟨⟨_, x9⟩, rfl⟩
          clear y0 y1 y2 y3 z0 z1 z2 z3
          have x9w := (x6w).trans x9
          have y0 : ∀ z : ExtOf w9, z.1.cell? ⟨w.heap.size, 0, none⟩ = _ := fun z => (HBX.out _ ((x9w).trans z.2)).1
          have z0 : ∀ z : ExtOf w9, z.1.cell? ⟨bk, off + k * 4, none⟩ = _ := fun z => (HCK.out _ ((x9w).trans z.2)).1
          have y1 : ∀ z : ExtOf w9, z.1.cell? ⟨w.heap.size, 1, none⟩ = _ := fun z => (HBX.out _ ((x9w).trans z.2)).2.1
          have z1 : ∀ z : ExtOf w9, z.1.cell? ⟨bk, off + k * 4 + 1, none⟩ = _ := fun z => (HCK.out _ ((x9w).trans z.2)).2.1
          have y2 : ∀ z : ExtOf w9, z.1.cell? ⟨w.heap.size, 2, none⟩ = _ := fun z => (HBX.out _ ((x9w).trans z.2)).2.2.1
          have z2 : ∀ z : ExtOf w9, z.1.cell? ⟨bk, off + k * 4 + 2, none⟩ = _ := fun z => (HCK.out _ ((x9w).trans z.2)).2.2.1
          have y3 : ∀ z : ExtOf w9, z.1.cell? ⟨w.heap.size, 3, none⟩ = _ := fun z => (HBX.out _ ((x9w).trans z.2)).2.2.2
          have z3 : ∀ z : ExtOf w9, z.1.cell? ⟨bk, off + k * 4 + 3, none⟩ = _ := fun z => (HCK.out _ ((x9w).trans z.2)).2.2.2
          cases nw with
          | true =>
            go_wp2_with fail
            refine wp_region_ext (by kernel_rfl) (by kernel_rfl) ?_
            repeat (go_big_quiet_step (((go_at_call 87; exact quiet_ext (HNW.out _ (x9w.trans (Subtype.property _)))))))
            refine wpQuiet_nil ?_
            rintro w11 ⟨⟨_, x11⟩, rfl⟩
            clear y0 y1 y2 y3 z0 z1 z2 z3
            have x11w := x9w.trans x11
            obtain ⟨b0, b1, b2, b3⟩ := HBX.out _ (x11w)
            go_wp2_with fail
            refine (spec_l8Copy _ (r) _ (HRA.out _ x11w) (by omega)).mono ?_
            rintro e w21 ⟨v21, G21, rfl, ⟨f21, rfl, _, o21⟩, n21, x21⟩
            obtain ⟨A21, c21, e21, _⟩ := o21.form
            subst e21
            have HB21 := hid (((hB.ext x6).ext (x9.trans x11)).ext x21)
            have HO21 := hid o21
            have HFR21 := hid (((hB.ext x6).ext (x9.trans x11)).fresh n21 (x11w).size)
            have HL21 := hid (show (out).length + 1 ≤ 1099511627776 by (try simp only [List.length_append, List.length_singleton]); omega)
            have HX21 := hid ((x11w).trans x21)
            clear o21 n21
            go_wp2_with (at_builtin; refine wpList_app1 (R := recordO) elemRec (by decide) rfl _ _ rfl HB21.out rfl _ 1 rfl (by simp) (one_rec _ _ _ _ _ _) (y := r) (G := G21) ⟨_, rfl, HRK.out, HO21.out⟩ HFR21.out HL21.out (by decide) HX21.out.size ?_; intro v921 w921 hB21 hE21; obtain ⟨A921, c921, e921, _⟩ := hB21.sl.form; obtain ⟨n921, hn921⟩ : ∃ n, n = ((out) ++ [r]).length := ⟨_, rfl⟩; rw [← hn921] at e921; subst e921; have xE21 := hE21 W0 (Nat.le_refl _) HX21.out; clear hE21 hn921 x21)
            go_roundw
            case rel => exact ⟨k + 1, _, _, _, by omega, by go_num, hB21, rfl, HSTEP.out.trans (putSt_eqn (HIK.out.1.symm.trans (HEQ.out.trans HIK.out.2.1)) HIK.out.2.2.symm), xE21⟩
            case measure => simp [intOf]; omega
          | false =>
            go_wp2_with fail
            refine wp_region_ext (by kernel_rfl) (by kernel_rfl) ?_
            repeat (go_big_quiet_step (((go_at_call 87; exact quiet_ext (HNW.out _ (x9w.trans (Subtype.property _)))))))
            refine wpQuiet_nil ?_
            rintro w11 ⟨⟨_, x11⟩, rfl⟩
            clear y0 y1 y2 y3 z0 z1 z2 z3
            have x11w := x9w.trans x11
            obtain ⟨d0, d1, d2, d3⟩ := HCK.out _ (x11w)
            go_wp2_with fail
            refine (spec_l8Copy _ (xs[k]) _ (HKA.out _ x11w) hlk).mono ?_
            rintro e w22 ⟨v22, G22, rfl, ⟨f22, rfl, _, o22⟩, n22, x22⟩
            obtain ⟨A22, c22, e22, _⟩ := o22.form
            subst e22
            have HB22 := hid (((hB.ext x6).ext (x9.trans x11)).ext x22)
            have HO22 := hid o22
            have HFR22 := hid (((hB.ext x6).ext (x9.trans x11)).fresh n22 (x11w).size)
            have HL22 := hid (show (out).length + 1 ≤ 1099511627776 by (try simp only [List.length_append, List.length_singleton]); omega)
            have HX22 := hid ((x11w).trans x22)
            clear o22 n22
            go_wp2_with (at_builtin; refine wpList_app1 (R := recordO) elemRec (by decide) rfl _ _ rfl HB22.out rfl _ 1 rfl (by simp) (one_rec _ _ _ _ _ _) (y := xs[k]) (G := G22) ⟨_, rfl, HOKK.out, HO22.out⟩ HFR22.out HL22.out (by decide) HX22.out.size ?_; intro v922 w922 hB22 hE22; obtain ⟨A922, c922, e922, _⟩ := hB22.sl.form; obtain ⟨n922, hn922⟩ : ∃ n, n = ((out) ++ [xs[k]]).length := ⟨_, rfl⟩; rw [← hn922] at e922; subst e922; have xE22 := hE22 W0 (Nat.le_refl _) HX22.out; clear hE22 hn922 x22)
            go_roundw
            case rel => exact ⟨k + 1, _, _, _, by omega, by go_num, hB22, rfl, HSTEP.out.trans (putSt_eqo (HIK.out.1.symm.trans (HEQ.out.trans HIK.out.2.1)) HIK.out.2.2.symm), xE22⟩
            case measure => simp [intOf]; omega
        · have heqB : (ik == ir) = false := by simp [heq]
          have HEQ := hid heq
          clear heq
          have y0 : ∀ z : ExtOf w6, z.1.cell? ⟨w.heap.size, 0, none⟩ = _ := fun z => (HBX.out _ ((x6w).trans z.2)).1
          have z0 : ∀ z : ExtOf w6, z.1.cell? ⟨bk, off + k * 4, none⟩ = _ := fun z => (HCK.out _ ((x6w).trans z.2)).1
          have y1 : ∀ z : ExtOf w6, z.1.cell? ⟨w.heap.size, 1, none⟩ = _ := fun z => (HBX.out _ ((x6w).trans z.2)).2.1
          have z1 : ∀ z : ExtOf w6, z.1.cell? ⟨bk, off + k * 4 + 1, none⟩ = _ := fun z => (HCK.out _ ((x6w).trans z.2)).2.1
          have y2 : ∀ z : ExtOf w6, z.1.cell? ⟨w.heap.size, 2, none⟩ = _ := fun z => (HBX.out _ ((x6w).trans z.2)).2.2.1
          have z2 : ∀ z : ExtOf w6, z.1.cell? ⟨bk, off + k * 4 + 2, none⟩ = _ := fun z => (HCK.out _ ((x6w).trans z.2)).2.2.1
          have y3 : ∀ z : ExtOf w6, z.1.cell? ⟨w.heap.size, 3, none⟩ = _ := fun z => (HBX.out _ ((x6w).trans z.2)).2.2.2
          have z3 : ∀ z : ExtOf w6, z.1.cell? ⟨bk, off + k * 4 + 3, none⟩ = _ := fun z => (HCK.out _ ((x6w).trans z.2)).2.2.2
          go_wp2_with fail
          refine wp_region_ext (by kernel_rfl) (by kernel_rfl) ?_
          repeat (go_big_quiet_step (((first | (go_at_call 41; with_reducible exact quiet_ext (HIDK.out _ ((x6w).trans (Subtype.property _)))) | (go_at_call 41; exact quiet_ext (HIDR.out _ ((x6w).trans (Subtype.property _))))))))
          refine wpQuiet_nil ?_
          rintro w9 ⟨⟨_, x9⟩, rfl⟩
          clear y0 y1 y2 y3 z0 z1 z2 z3
          have x9w := (x6w).trans x9
          obtain ⟨d0, d1, d2, d3⟩ := HCK.out _ (x9w)
          go_wp2_with fail
          refine (spec_l8Copy _ (xs[k]) _ (HKA.out _ x9w) hlk).mono ?_
          rintro e w23 ⟨v23, G23, rfl, ⟨f23, rfl, _, o23⟩, n23, x23⟩
          obtain ⟨A23, c23, e23, _⟩ := o23.form
          subst e23
          have HB23 := hid (((hB.ext x6).ext x9).ext x23)
          have HO23 := hid o23
          have HFR23 := hid (((hB.ext x6).ext x9).fresh n23 (x9w).size)
          have HL23 := hid (show (out).length + 1 ≤ 1099511627776 by (try simp only [List.length_append, List.length_singleton]); omega)
          have HX23 := hid ((x9w).trans x23)
          clear o23 n23
          go_wp2_with (at_builtin; refine wpList_app1 (R := recordO) elemRec (by decide) rfl _ _ rfl HB23.out rfl _ 1 rfl (by simp) (one_rec _ _ _ _ _ _) (y := xs[k]) (G := G23) ⟨_, rfl, HOKK.out, HO23.out⟩ HFR23.out HL23.out (by decide) HX23.out.size ?_; intro v923 w923 hB23 hE23; obtain ⟨A923, c923, e923, _⟩ := hB23.sl.form; obtain ⟨n923, hn923⟩ : ∃ n, n = ((out) ++ [xs[k]]).length := ⟨_, rfl⟩; rw [← hn923] at e923; subst e923; have xE23 := hE23 W0 (Nat.le_refl _) HX23.out; clear hE23 hn923 x23)
          go_roundw
          case rel => exact ⟨k + 1, _, _, _, by omega, by go_num, hB23, rfl, HSTEP.out.trans (putSt_ne (fun h => by cases h.1) (fun h => HEQ.out (HIK.out.1.trans (h.trans HIK.out.2.1.symm)))), xE23⟩
          case measure => simp [intOf]; omega
      | false =>
        by_cases hgt : ir < ik
        · have hgB : decide (ir < ik) = true := by simp [hgt]
          have heqB : (ik == ir) = false := by simp; omega
          have HGT := hid hgt
          clear hgt
          have y0 : ∀ z : ExtOf wr, z.1.cell? ⟨w.heap.size, 0, none⟩ = _ := fun z => (HBX.out _ ((hx).trans z.2)).1
          have z0 : ∀ z : ExtOf wr, z.1.cell? ⟨bk, off + k * 4, none⟩ = _ := fun z => (HCK.out _ ((hx).trans z.2)).1
          have y1 : ∀ z : ExtOf wr, z.1.cell? ⟨w.heap.size, 1, none⟩ = _ := fun z => (HBX.out _ ((hx).trans z.2)).2.1
          have z1 : ∀ z : ExtOf wr, z.1.cell? ⟨bk, off + k * 4 + 1, none⟩ = _ := fun z => (HCK.out _ ((hx).trans z.2)).2.1
          have y2 : ∀ z : ExtOf wr, z.1.cell? ⟨w.heap.size, 2, none⟩ = _ := fun z => (HBX.out _ ((hx).trans z.2)).2.2.1
          have z2 : ∀ z : ExtOf wr, z.1.cell? ⟨bk, off + k * 4 + 2, none⟩ = _ := fun z => (HCK.out _ ((hx).trans z.2)).2.2.1
          have y3 : ∀ z : ExtOf wr, z.1.cell? ⟨w.heap.size, 3, none⟩ = _ := fun z => (HBX.out _ ((hx).trans z.2)).2.2.2
          have z3 : ∀ z : ExtOf wr, z.1.cell? ⟨bk, off + k * 4 + 3, none⟩ = _ := fun z => (HCK.out _ ((hx).trans z.2)).2.2.2
          go_wp2_with fail
          refine wp_region_ext (by kernel_rfl) (by kernel_rfl) ?_
          repeat (go_big_quiet_step (((first | (go_at_call 41; with_reducible exact quiet_ext (HIDK.out _ ((hx).trans (Subtype.property _)))) | (go_at_call 41; exact quiet_ext (HIDR.out _ ((hx).trans (Subtype.property _))))))))
          refine wpQuiet_nil ?_
          rintro w6 ⟨⟨_, x6⟩, rfl⟩
          clear y0 y1 y2 y3 z0 z1 z2 z3
          have x6w := hx.trans x6
          obtain ⟨b0, b1, b2, b3⟩ := HBX.out _ (x6w)
          go_wp2_with fail
          refine (spec_l8Copy _ (r) _ (HRA.out _ x6w) (by omega)).mono ?_
          rintro e w24 ⟨v24, G24, rfl, ⟨f24, rfl, _, o24⟩, n24, x24⟩
          obtain ⟨A24, c24, e24, _⟩ := o24.form
          subst e24
          have HB24 := hid ((hB.ext x6).ext x24)
          have HO24 := hid o24
          have HFR24 := hid ((hB.ext x6).fresh n24 (x6w).size)
          have HL24 := hid (show (out).length + 1 ≤ 1099511627776 by (try simp only [List.length_append, List.length_singleton]); omega)
          have HX24 := hid ((x6w).trans x24)
          clear o24 n24
          go_wp2_with (at_builtin; refine wpList_app1 (R := recordO) elemRec (by decide) rfl _ _ rfl HB24.out rfl _ 1 rfl (by simp) (one_rec _ _ _ _ _ _) (y := r) (G := G24) ⟨_, rfl, HRK.out, HO24.out⟩ HFR24.out HL24.out (by decide) HX24.out.size ?_; intro v924 w924 hB24 hE24; obtain ⟨A924, c924, e924, _⟩ := hB24.sl.form; obtain ⟨n924, hn924⟩ : ∃ n, n = ((out) ++ [r]).length := ⟨_, rfl⟩; rw [← hn924] at e924; subst e924; have xE24 := hE24 W0 (Nat.le_refl _) HX24.out; clear hE24 hn924 x24)
          clear b0 b1 b2 b3
          have y0 : ∀ z : ExtOf w924, z.1.cell? ⟨w.heap.size, 0, none⟩ = _ := fun z => (HBX.out _ ((xE24).trans z.2)).1
          have z0 : ∀ z : ExtOf w924, z.1.cell? ⟨bk, off + k * 4, none⟩ = _ := fun z => (HCK.out _ ((xE24).trans z.2)).1
          have y1 : ∀ z : ExtOf w924, z.1.cell? ⟨w.heap.size, 1, none⟩ = _ := fun z => (HBX.out _ ((xE24).trans z.2)).2.1
          have z1 : ∀ z : ExtOf w924, z.1.cell? ⟨bk, off + k * 4 + 1, none⟩ = _ := fun z => (HCK.out _ ((xE24).trans z.2)).2.1
          have y2 : ∀ z : ExtOf w924, z.1.cell? ⟨w.heap.size, 2, none⟩ = _ := fun z => (HBX.out _ ((xE24).trans z.2)).2.2.1
          have z2 : ∀ z : ExtOf w924, z.1.cell? ⟨bk, off + k * 4 + 2, none⟩ = _ := fun z => (HCK.out _ ((xE24).trans z.2)).2.2.1
          have y3 : ∀ z : ExtOf w924, z.1.cell? ⟨w.heap.size, 3, none⟩ = _ := fun z => (HBX.out _ ((xE24).trans z.2)).2.2.2
          have z3 : ∀ z : ExtOf w924, z.1.cell? ⟨bk, off + k * 4 + 3, none⟩ = _ := fun z => (HCK.out _ ((xE24).trans z.2)).2.2.2
          go_wp2_with fail
          refine wp_region_ext (by kernel_rfl) (by kernel_rfl) ?_
          repeat (go_big_quiet_step (((first | (go_at_call 41; with_reducible exact quiet_ext (HIDK.out _ ((xE24).trans (Subtype.property _)))) | (go_at_call 41; exact quiet_ext (HIDR.out _ ((xE24).trans (Subtype.property _))))))))
          refine wpQuiet_nil ?_
          rintro w9 ⟨⟨_, x9⟩, rfl⟩
          clear y0 y1 y2 y3 z0 z1 z2 z3
          have x9w := xE24.trans x9
          obtain ⟨d0, d1, d2, d3⟩ := HCK.out _ (x9w)
          go_wp2_with fail
          refine (spec_l8Copy _ (xs[k]) _ (HKA.out _ x9w) hlk).mono ?_
          rintro e w25 ⟨v25, G25, rfl, ⟨f25, rfl, _, o25⟩, n25, x25⟩
          obtain ⟨A25, c25, e25, _⟩ := o25.form
          subst e25
          have HB25 := hid ((hB24.ext x9).ext x25)
          have HO25 := hid o25
          have HFR25 := hid ((hB24.ext x9).fresh n25 (x9w).size)
          have HL25 := hid (show (out ++ [r]).length + 1 ≤ 1099511627776 by (try simp only [List.length_append, List.length_singleton]); omega)
          have HX25 := hid ((x9w).trans x25)
          clear o25 n25
          go_wp2_with (at_builtin; refine wpList_app1 (R := recordO) elemRec (by decide) rfl _ _ rfl HB25.out rfl _ 1 rfl (by simp) (one_rec _ _ _ _ _ _) (y := xs[k]) (G := G25) ⟨_, rfl, HOKK.out, HO25.out⟩ HFR25.out HL25.out (by decide) HX25.out.size ?_; intro v925 w925 hB25 hE25; obtain ⟨A925, c925, e925, _⟩ := hB25.sl.form; obtain ⟨n925, hn925⟩ : ∃ n, n = ((out ++ [r]) ++ [xs[k]]).length := ⟨_, rfl⟩; rw [← hn925] at e925; subst e925; have xE25 := hE25 W0 (Nat.le_refl _) HX25.out; clear hE25 hn925 x25)
          go_roundw
          case rel => exact ⟨k + 1, _, _, _, by omega, by go_num, hB25, rfl, HSTEP.out.trans (putSt_a ⟨rfl, by rw [← HIK.out.1, ← HIK.out.2.1]; exact HGT.out⟩), xE25⟩
          case measure => simp [intOf]; omega
        · have hgB : decide (ir < ik) = false := by simp [hgt]
          have HGT := hid hgt
          clear hgt
          have y0 : ∀ z : ExtOf wr, z.1.cell? ⟨w.heap.size, 0, none⟩ = _ := fun z => (HBX.out _ ((hx).trans z.2)).1
          have z0 : ∀ z : ExtOf wr, z.1.cell? ⟨bk, off + k * 4, none⟩ = _ := fun z => (HCK.out _ ((hx).trans z.2)).1
          have y1 : ∀ z : ExtOf wr, z.1.cell? ⟨w.heap.size, 1, none⟩ = _ := fun z => (HBX.out _ ((hx).trans z.2)).2.1
          have z1 : ∀ z : ExtOf wr, z.1.cell? ⟨bk, off + k * 4 + 1, none⟩ = _ := fun z => (HCK.out _ ((hx).trans z.2)).2.1
          have y2 : ∀ z : ExtOf wr, z.1.cell? ⟨w.heap.size, 2, none⟩ = _ := fun z => (HBX.out _ ((hx).trans z.2)).2.2.1
          have z2 : ∀ z : ExtOf wr, z.1.cell? ⟨bk, off + k * 4 + 2, none⟩ = _ := fun z => (HCK.out _ ((hx).trans z.2)).2.2.1
          have y3 : ∀ z : ExtOf wr, z.1.cell? ⟨w.heap.size, 3, none⟩ = _ := fun z => (HBX.out _ ((hx).trans z.2)).2.2.2
          have z3 : ∀ z : ExtOf wr, z.1.cell? ⟨bk, off + k * 4 + 3, none⟩ = _ := fun z => (HCK.out _ ((hx).trans z.2)).2.2.2
          go_wp2_with fail
          refine wp_region_ext (by kernel_rfl) (by kernel_rfl) ?_
          repeat (go_big_quiet_step (((first | (go_at_call 41; with_reducible exact quiet_ext (HIDK.out _ ((hx).trans (Subtype.property _)))) | (go_at_call 41; exact quiet_ext (HIDR.out _ ((hx).trans (Subtype.property _))))))))
          refine wpQuiet_nil ?_
          rintro w6 ⟨⟨_, x6⟩, rfl⟩
          clear y0 y1 y2 y3 z0 z1 z2 z3
          have x6w := hx.trans x6
          by_cases heq : ik = ir
          · have heqB : (ik == ir) = true := by simp [heq]
            have HEQ := hid heq
            clear heq
            have y0 : ∀ z : ExtOf w6, z.1.cell? ⟨w.heap.size, 0, none⟩ = _ := fun z => (HBX.out _ ((x6w).trans z.2)).1
            have z0 : ∀ z : ExtOf w6, z.1.cell? ⟨bk, off + k * 4, none⟩ = _ := fun z => (HCK.out _ ((x6w).trans z.2)).1
            have y1 : ∀ z : ExtOf w6, z.1.cell? ⟨w.heap.size, 1, none⟩ = _ := fun z => (HBX.out _ ((x6w).trans z.2)).2.1
            have z1 : ∀ z : ExtOf w6, z.1.cell? ⟨bk, off + k * 4 + 1, none⟩ = _ := fun z => (HCK.out _ ((x6w).trans z.2)).2.1
            have y2 : ∀ z : ExtOf w6, z.1.cell? ⟨w.heap.size, 2, none⟩ = _ := fun z => (HBX.out _ ((x6w).trans z.2)).2.2.1
            have z2 : ∀ z : ExtOf w6, z.1.cell? ⟨bk, off + k * 4 + 2, none⟩ = _ := fun z => (HCK.out _ ((x6w).trans z.2)).2.2.1
            have y3 : ∀ z : ExtOf w6, z.1.cell? ⟨w.heap.size, 3, none⟩ = _ := fun z => (HBX.out _ ((x6w).trans z.2)).2.2.2
            have z3 : ∀ z : ExtOf w6, z.1.cell? ⟨bk, off + k * 4 + 3, none⟩ = _ := fun z => (HCK.out _ ((x6w).trans z.2)).2.2.2
            go_wp2_with fail
            refine wp_region_ext (by kernel_rfl) (by kernel_rfl) ?_
            repeat (go_big_quiet_step (((first | (go_at_call 41; with_reducible exact quiet_ext (HIDK.out _ ((x6w).trans (Subtype.property _)))) | (go_at_call 41; exact quiet_ext (HIDR.out _ ((x6w).trans (Subtype.property _))))))))
            refine wpQuiet_nil ?_
            rintro w9 ⟨⟨_, x9⟩, rfl⟩
            clear y0 y1 y2 y3 z0 z1 z2 z3
            have x9w := (x6w).trans x9
            have y0 : ∀ z : ExtOf w9, z.1.cell? ⟨w.heap.size, 0, none⟩ = _ := fun z => (HBX.out _ ((x9w).trans z.2)).1
            have z0 : ∀ z : ExtOf w9, z.1.cell? ⟨bk, off + k * 4, none⟩ = _ := fun z => (HCK.out _ ((x9w).trans z.2)).1
            have y1 : ∀ z : ExtOf w9, z.1.cell? ⟨w.heap.size, 1, none⟩ = _ := fun z => (HBX.out _ ((x9w).trans z.2)).2.1
            have z1 : ∀ z : ExtOf w9, z.1.cell? ⟨bk, off + k * 4 + 1, none⟩ = _ := fun z => (HCK.out _ ((x9w).trans z.2)).2.1
            have y2 : ∀ z : ExtOf w9, z.1.cell? ⟨w.heap.size, 2, none⟩ = _ := fun z => (HBX.out _ ((x9w).trans z.2)).2.2.1
            have z2 : ∀ z : ExtOf w9, z.1.cell? ⟨bk, off + k * 4 + 2, none⟩ = _ := fun z => (HCK.out _ ((x9w).trans z.2)).2.2.1
            have y3 : ∀ z : ExtOf w9, z.1.cell? ⟨w.heap.size, 3, none⟩ = _ := fun z => (HBX.out _ ((x9w).trans z.2)).2.2.2
            have z3 : ∀ z : ExtOf w9, z.1.cell? ⟨bk, off + k * 4 + 3, none⟩ = _ := fun z => (HCK.out _ ((x9w).trans z.2)).2.2.2
            cases nw with
            | true =>
              go_wp2_with fail
              refine wp_region_ext (by kernel_rfl) (by kernel_rfl) ?_
              repeat (go_big_quiet_step (((go_at_call 87; exact quiet_ext (HNW.out _ (x9w.trans (Subtype.property _)))))))
              refine wpQuiet_nil ?_
              rintro w11 ⟨⟨_, x11⟩, rfl⟩
              clear y0 y1 y2 y3 z0 z1 z2 z3
              have x11w := x9w.trans x11
              obtain ⟨b0, b1, b2, b3⟩ := HBX.out _ (x11w)
              go_wp2_with fail
              refine (spec_l8Copy _ (r) _ (HRA.out _ x11w) (by omega)).mono ?_
              rintro e w21 ⟨v21, G21, rfl, ⟨f21, rfl, _, o21⟩, n21, x21⟩
              obtain ⟨A21, c21, e21, _⟩ := o21.form
              subst e21
              have HB21 := hid (((hB.ext x6).ext (x9.trans x11)).ext x21)
              have HO21 := hid o21
              have HFR21 := hid (((hB.ext x6).ext (x9.trans x11)).fresh n21 (x11w).size)
              have HL21 := hid (show (out).length + 1 ≤ 1099511627776 by (try simp only [List.length_append, List.length_singleton]); omega)
              have HX21 := hid ((x11w).trans x21)
              clear o21 n21
              go_wp2_with (at_builtin; refine wpList_app1 (R := recordO) elemRec (by decide) rfl _ _ rfl HB21.out rfl _ 1 rfl (by simp) (one_rec _ _ _ _ _ _) (y := r) (G := G21) ⟨_, rfl, HRK.out, HO21.out⟩ HFR21.out HL21.out (by decide) HX21.out.size ?_; intro v921 w921 hB21 hE21; obtain ⟨A921, c921, e921, _⟩ := hB21.sl.form; obtain ⟨n921, hn921⟩ : ∃ n, n = ((out) ++ [r]).length := ⟨_, rfl⟩; rw [← hn921] at e921; subst e921; have xE21 := hE21 W0 (Nat.le_refl _) HX21.out; clear hE21 hn921 x21)
              go_roundw
              case rel => exact ⟨k + 1, _, _, _, by omega, by go_num, hB21, rfl, HSTEP.out.trans (putSt_eqn (HIK.out.1.symm.trans (HEQ.out.trans HIK.out.2.1)) HIK.out.2.2.symm), xE21⟩
              case measure => simp [intOf]; omega
            | false =>
              go_wp2_with fail
              refine wp_region_ext (by kernel_rfl) (by kernel_rfl) ?_
              repeat (go_big_quiet_step (((go_at_call 87; exact quiet_ext (HNW.out _ (x9w.trans (Subtype.property _)))))))
              refine wpQuiet_nil ?_
              rintro w11 ⟨⟨_, x11⟩, rfl⟩
              clear y0 y1 y2 y3 z0 z1 z2 z3
              have x11w := x9w.trans x11
              obtain ⟨d0, d1, d2, d3⟩ := HCK.out _ (x11w)
              go_wp2_with fail
              refine (spec_l8Copy _ (xs[k]) _ (HKA.out _ x11w) hlk).mono ?_
              rintro e w22 ⟨v22, G22, rfl, ⟨f22, rfl, _, o22⟩, n22, x22⟩
              obtain ⟨A22, c22, e22, _⟩ := o22.form
              subst e22
              have HB22 := hid (((hB.ext x6).ext (x9.trans x11)).ext x22)
              have HO22 := hid o22
              have HFR22 := hid (((hB.ext x6).ext (x9.trans x11)).fresh n22 (x11w).size)
              have HL22 := hid (show (out).length + 1 ≤ 1099511627776 by (try simp only [List.length_append, List.length_singleton]); omega)
              have HX22 := hid ((x11w).trans x22)
              clear o22 n22
              go_wp2_with (at_builtin; refine wpList_app1 (R := recordO) elemRec (by decide) rfl _ _ rfl HB22.out rfl _ 1 rfl (by simp) (one_rec _ _ _ _ _ _) (y := xs[k]) (G := G22) ⟨_, rfl, HOKK.out, HO22.out⟩ HFR22.out HL22.out (by decide) HX22.out.size ?_; intro v922 w922 hB22 hE22; obtain ⟨A922, c922, e922, _⟩ := hB22.sl.form; obtain ⟨n922, hn922⟩ : ∃ n, n = ((out) ++ [xs[k]]).length := ⟨_, rfl⟩; rw [← hn922] at e922; subst e922; have xE22 := hE22 W0 (Nat.le_refl _) HX22.out; clear hE22 hn922 x22)
              go_roundw
              case rel => exact ⟨k + 1, _, _, _, by omega, by go_num, hB22, rfl, HSTEP.out.trans (putSt_eqo (HIK.out.1.symm.trans (HEQ.out.trans HIK.out.2.1)) HIK.out.2.2.symm), xE22⟩
              case measure => simp [intOf]; omega
          · have heqB : (ik == ir) = false := by simp [heq]
            have HEQ := hid heq
            clear heq
            have y0 : ∀ z : ExtOf w6, z.1.cell? ⟨w.heap.size, 0, none⟩ = _ := fun z => (HBX.out _ ((x6w).trans z.2)).1
            have z0 : ∀ z : ExtOf w6, z.1.cell? ⟨bk, off + k * 4, none⟩ = _ := fun z => (HCK.out _ ((x6w).trans z.2)).1
            have y1 : ∀ z : ExtOf w6, z.1.cell? ⟨w.heap.size, 1, none⟩ = _ := fun z => (HBX.out _ ((x6w).trans z.2)).2.1
            have z1 : ∀ z : ExtOf w6, z.1.cell? ⟨bk, off + k * 4 + 1, none⟩ = _ := fun z => (HCK.out _ ((x6w).trans z.2)).2.1
            have y2 : ∀ z : ExtOf w6, z.1.cell? ⟨w.heap.size, 2, none⟩ = _ := fun z => (HBX.out _ ((x6w).trans z.2)).2.2.1
            have z2 : ∀ z : ExtOf w6, z.1.cell? ⟨bk, off + k * 4 + 2, none⟩ = _ := fun z => (HCK.out _ ((x6w).trans z.2)).2.2.1
            have y3 : ∀ z : ExtOf w6, z.1.cell? ⟨w.heap.size, 3, none⟩ = _ := fun z => (HBX.out _ ((x6w).trans z.2)).2.2.2
            have z3 : ∀ z : ExtOf w6, z.1.cell? ⟨bk, off + k * 4 + 3, none⟩ = _ := fun z => (HCK.out _ ((x6w).trans z.2)).2.2.2
            go_wp2_with fail
            refine wp_region_ext (by kernel_rfl) (by kernel_rfl) ?_
            repeat (go_big_quiet_step (((first | (go_at_call 41; with_reducible exact quiet_ext (HIDK.out _ ((x6w).trans (Subtype.property _)))) | (go_at_call 41; exact quiet_ext (HIDR.out _ ((x6w).trans (Subtype.property _))))))))
            refine wpQuiet_nil ?_
            rintro w9 ⟨⟨_, x9⟩, rfl⟩
            clear y0 y1 y2 y3 z0 z1 z2 z3
            have x9w := (x6w).trans x9
            obtain ⟨d0, d1, d2, d3⟩ := HCK.out _ (x9w)
            go_wp2_with fail
            refine (spec_l8Copy _ (xs[k]) _ (HKA.out _ x9w) hlk).mono ?_
            rintro e w23 ⟨v23, G23, rfl, ⟨f23, rfl, _, o23⟩, n23, x23⟩
            obtain ⟨A23, c23, e23, _⟩ := o23.form
            subst e23
            have HB23 := hid (((hB.ext x6).ext x9).ext x23)
            have HO23 := hid o23
            have HFR23 := hid (((hB.ext x6).ext x9).fresh n23 (x9w).size)
            have HL23 := hid (show (out).length + 1 ≤ 1099511627776 by (try simp only [List.length_append, List.length_singleton]); omega)
            have HX23 := hid ((x9w).trans x23)
            clear o23 n23
            go_wp2_with (at_builtin; refine wpList_app1 (R := recordO) elemRec (by decide) rfl _ _ rfl HB23.out rfl _ 1 rfl (by simp) (one_rec _ _ _ _ _ _) (y := xs[k]) (G := G23) ⟨_, rfl, HOKK.out, HO23.out⟩ HFR23.out HL23.out (by decide) HX23.out.size ?_; intro v923 w923 hB23 hE23; obtain ⟨A923, c923, e923, _⟩ := hB23.sl.form; obtain ⟨n923, hn923⟩ : ∃ n, n = ((out) ++ [xs[k]]).length := ⟨_, rfl⟩; rw [← hn923] at e923; subst e923; have xE23 := hE23 W0 (Nat.le_refl _) HX23.out; clear hE23 hn923 x23)
            go_roundw
            case rel => exact ⟨k + 1, _, _, _, by omega, by go_num, hB23, rfl, HSTEP.out.trans (putSt_ne (fun h => absurd h.2 (by rw [← HIK.out.1, ← HIK.out.2.1]; have := HGT.out; omega)) (fun h => HEQ.out (HIK.out.1.trans (h.trans HIK.out.2.1.symm)))), xE23⟩
            case measure => simp [intOf]; omega
    · have hkn : xs.take k = xs := List.take_of_length_le (by omega)
      cases dn with
      | true =>
        have HFIN := hid (show Bld recordO wr w.heap.size 72 (.slice At out.length ct) (putF xs r) F ∧ Ext w wr from by
          have h1 := HF.out
          rw [hkn] at h1
          unfold putF
          rw [h1]
          exact ⟨hB.lowv HX0.out.size, HX0.out.trans hx⟩)
        clear hkn hB
        go_wp2
        go_ret
        exact ⟨_, _, rfl, HFIN.out⟩
      | false =>
        have HPF := hid (show putF xs r = out ++ [r] from by
          have h1 := HF.out
          rw [hkn] at h1
          unfold putF
          rw [h1]
          rfl)
        have HRA := hid (show ∀ W, Ext W0 W → RecAt W (.agg #[.int .i64 r.source, .int .i64 r.key, .int .i64 r.version, .slice Af r.fields.length cf]) r from fun W y => HRA0.out.mono (HX0.out.trans y))
        clear hkn
        obtain ⟨b0, b1, b2, b3⟩ := HBX.out _ (hx)
        go_wp2_with fail
        refine (spec_l8Copy _ (r) _ (HRA.out _ hx) (by omega)).mono ?_
        rintro e w26 ⟨v26, G26, rfl, ⟨f26, rfl, _, o26⟩, n26, x26⟩
        obtain ⟨A26, c26, e26, _⟩ := o26.form
        subst e26
        have HB26 := hid ((hB).ext x26)
        have HO26 := hid o26
        have HFR26 := hid ((hB).fresh n26 (hx).size)
        have HL26 := hid (show (out).length + 1 ≤ 1099511627776 by (try simp only [List.length_append, List.length_singleton]); omega)
        have HX26 := hid ((hx).trans x26)
        clear o26 n26
        go_wp2_with (at_builtin; refine wpList_app1 (R := recordO) elemRec (by decide) rfl _ _ rfl HB26.out rfl _ 1 rfl (by simp) (one_rec _ _ _ _ _ _) (y := r) (G := G26) ⟨_, rfl, HRK.out, HO26.out⟩ HFR26.out HL26.out (by decide) HX26.out.size ?_; intro v926 w926 hB26 hE26; obtain ⟨A926, c926, e926, _⟩ := hB26.sl.form; obtain ⟨n926, hn926⟩ : ∃ n, n = ((out) ++ [r]).length := ⟨_, rfl⟩; rw [← hn926] at e926; subst e926; have xE26 := hE26 W0 (Nat.le_refl _) HX26.out; clear hE26 hn926 x26)
        have HFIN := hid (And.intro (hB26.lowv HX0.out.size) (HX0.out.trans xE26))
        clear hB26 xE26
        go_wp2
        go_ret
        exact ⟨_, _, rfl, by rw [HPF.out]; exact HFIN.out.1, HFIN.out.2⟩

end Go.Proofs.YtfcbapaojoecgaaGreat

namespace Go.Proofs.YtfcbapaojoecgaaGreat
open Go.RowKit

theorem cell_setOther {w : World} {b g k i : Nat} {u : Value} (h : b ≠ g) : (w.setCell ⟨g, k, none⟩ u).cell? ⟨b, i, none⟩ = w.cell? ⟨b, i, none⟩ := cell_of_same (keep_setCell h) i
theorem ver_noF1 {w : World} : ∀ {xs : List Verdict} {cs : List Value} {F : List Nat}, OwnCells verdictO w cs xs F → F = []
  | [], _, _, h => h.2
  | x :: xs, _, _, ⟨c, d, F1, F2, _, e, ⟨_, e2⟩, h4⟩ => by rw [e, e2, ver_noF1 h4]; rfl
theorem ver_noF {w : World} {base : Nat} {e : TypeId} {v : Value} {xs : List Verdict} {F : List Nat} (h : Bld verdictO w base e v xs F) : F = [] := by
  obtain ⟨cs, _, h2, _⟩ := h
  exact ver_noF1 h2
theorem upR2_y {rs : List Record} {o : Op} (h : o.kind = 1) : upR2 rs o = putF rs o.record := by unfold upR2; rw [if_pos h]
theorem upR2_n {rs : List Record} {o : Op} (h : ¬ o.kind = 1) : upR2 rs o = rs := by unfold upR2; rw [if_neg h]
theorem upV2_y {vs : List Verdict} {o : Op} (h : o.kind = 3) (h2 : idxV vs o.verdict < 0) : upV2 vs o = sortS (vs ++ [o.verdict]) := by unfold upV2; rw [if_pos ⟨h, h2⟩]
theorem upV2_n {vs : List Verdict} {o : Op} (h : ¬ (o.kind = 3 ∧ idxV vs o.verdict < 0)) : upV2 vs o = vs := by unfold upV2; rw [if_neg h]
theorem dnR2_n {rs : List Record} {o : Op} (h : ¬ o.kind = 2) : dnR2 rs o = rs := by unfold dnR2; rw [if_neg h]
theorem dnR2_0 {rs : List Record} {o : Op} (h : o.kind = 2) (h2 : idxF (fun r => recID r == recID o.record) 0 rs = -1) : dnR2 rs o = rs := by unfold dnR2 delF; rw [if_pos h, h2, if_neg (by omega)]
theorem dnR2_y {rs : List Record} {o : Op} {j : Nat} (h : o.kind = 2) (hj : j < rs.length) (h2 : idxF (fun r => recID r == recID o.record) 0 rs = (j : Int)) (h3 : rs[j].version ≤ o.record.version) : dnR2 rs o = rs.eraseIdx j := by
  unfold dnR2 delF
  rw [if_pos h, h2, Int.toNat_natCast, rAt_at hj, if_pos ⟨by omega, h3⟩]
theorem dnR2_v {rs : List Record} {o : Op} {j : Nat} (h : o.kind = 2) (hj : j < rs.length) (h2 : idxF (fun r => recID r == recID o.record) 0 rs = (j : Int)) (h3 : ¬ rs[j].version ≤ o.record.version) : dnR2 rs o = rs := by
  unfold dnR2 delF
  rw [if_pos h, h2, Int.toNat_natCast, rAt_at hj, if_neg (fun c => h3 c.2)]
theorem dnV2_n {vs : List Verdict} {o : Op} (h : ¬ o.kind = 4) : dnV2 vs o = vs := by unfold dnV2; rw [if_neg (fun c => h c.1)]
theorem dnV2_0 {vs : List Verdict} {o : Op} (h : idxV vs o.verdict = -1) : dnV2 vs o = vs := by unfold dnV2; rw [h, if_neg (by omega)]
theorem dnV2_y {vs : List Verdict} {o : Op} {j : Nat} (h : o.kind = 4) (h2 : idxV vs o.verdict = (j : Int)) : dnV2 vs o = vs.eraseIdx j := by unfold dnV2; rw [h2, Int.toNat_natCast, if_pos ⟨h, by omega⟩]
theorem upV2_len (vs : List Verdict) : ∀ ops : List Op, (ops.foldl upV2 vs).length ≤ vs.length + ops.length
  | [] => by simp
  | o :: ops => by
    have := upV2_len (upV2 vs o) ops
    have h1 : (upV2 vs o).length ≤ vs.length + 1 := by
      unfold upV2
      split
      · rw [sortS_len]; simp
      · omega
    simp only [List.foldl_cons, List.length_cons]; omega
theorem dnV2_len (vs : List Verdict) : ∀ ops : List Op, (ops.foldl dnV2 vs).length ≤ vs.length
  | [] => by simp
  | o :: ops => by
    have := dnV2_len (dnV2 vs o) ops
    have h1 : (dnV2 vs o).length ≤ vs.length := by
      unfold dnV2
      split
      · exact (List.eraseIdx_sublist ..).length_le
      · exact Nat.le_refl _
    simp only [List.foldl_cons]; omega
theorem dnR2_len (rs : List Record) : ∀ ops : List Op, (ops.foldl dnR2 rs).length ≤ rs.length
  | [] => by simp
  | o :: ops => by
    have := dnR2_len (dnR2 rs o) ops
    have h1 : (dnR2 rs o).length ≤ rs.length := by
      unfold dnR2 delF
      split
      · split
        · exact (List.eraseIdx_sublist ..).length_le
        · exact Nat.le_refl _
      · exact Nat.le_refl _
    simp only [List.foldl_cons]; omega

set_option maxHeartbeats 8000000 in
set_option maxRecDepth 100000 in
theorem spec_ApplyBatch (v u : Value) (s : Store) (b : Batch) (w : World) (h : StoAt w v s) (k : BatAt w u b) (hms : msRecs s.records ≤ 1048576) (hmv : s.verdicts.length ≤ 1048576) :
    Calls Tryz.prog 8 #[v, u] w (AppOut w · · (appB s b)) := by
  obtain ⟨r, d, rfl, hI, hr, hd⟩ := h
  obtain ⟨o, rfl, _, ho⟩ := k
  obtain ⟨Ao, co, rfl, _⟩ := ho.form
  have xw : Ext w (((w.alloc (.cells #[.int .i64 s.version, r, d] 34)).alloc (.cells #[.slice Ao b.ops.length co] 40)).alloc (.cells #[.int .i64 0, .slice none 0 0, .slice none 0 0] 34)) := (((Ext.refl w).alloc _).alloc _).alloc _
  have bZ := Blk.new ((w.alloc (.cells #[.int .i64 s.version, r, d] 34)).alloc (.cells #[.slice Ao b.ops.length co] 40)) 34 #[.int .i64 0, .slice none 0 0, .slice none 0 0]
  have bB := (Blk.new (w.alloc (.cells #[.int .i64 s.version, r, d] 34)) 40 #[.slice Ao b.ops.length co]).ext ((Ext.refl _).alloc (.cells #[.int .i64 0, .slice none 0 0, .slice none 0 0] 34))
  have bS := (Blk.new w 34 #[.int .i64 s.version, r, d]).ext (((Ext.refl _).alloc (.cells #[.slice Ao b.ops.length co] 40)).alloc (.cells #[.int .i64 0, .slice none 0 0, .slice none 0 0] 34))
  obtain ⟨W3, hW3⟩ : ∃ W3, W3 = ((w.alloc (.cells #[.int .i64 s.version, r, d] 34)).alloc (.cells #[.slice Ao b.ops.length co] 40)).alloc (.cells #[.int .i64 0, .slice none 0 0, .slice none 0 0] 34) := ⟨_, rfl⟩
  have hsz : W3.heap.size = w.heap.size + 1 + 1 + 1 := by rw [hW3]; simp
  simp only [World.size_alloc] at bZ bB
  rw [← hW3] at bZ bB bS xw
  have HBX := hid (show ∀ W, Ext W3 W → (W.cell? ⟨w.heap.size, 0, none⟩ = some (.int .i64 s.version) ∧ W.cell? ⟨w.heap.size, 1, none⟩ = some r ∧ W.cell? ⟨w.heap.size, 2, none⟩ = some d) ∧ W.cell? ⟨w.heap.size + 1, 0, none⟩ = some (.slice Ao b.ops.length co) from fun W y => ⟨⟨(bS.ext y).cells.1 0, (bS.ext y).cells.1 1, (bS.ext y).cells.1 2⟩, (bB.ext y).cells.1 0⟩)
  have HZ := hid (show ∀ W, Ext W3 W → Blk W (w.heap.size + 1 + 1) 34 [.int .i64 0, .slice none 0 0, .slice none 0 0] from fun W y => bZ.ext y)
  have HAT := hid (show ∀ W, Ext W3 W → StoAt W (.agg #[.int .i64 s.version, r, d]) s from fun W y => ⟨_, _, rfl, hI, (hr.mono xw).mono y, (hd.mono xw).mono y⟩)
  have HOPS := hid (show ∀ W, Ext W3 W → Sl opR W (.slice Ao b.ops.length co) b.ops from fun W y => (ho.mono xw).mono y)
  have HS := hid hsz
  have HX := hid xw
  have HI := hid hI
  clear bZ bB bS xw hsz hr hd ho hI
  go_enter Tryz.func8, Tryz.ntmps8
  go_wp2_with fail
  rw [← hW3]
  clear hW3
  refine (spec_l30Copy _ s _ (HAT.out _ (Ext.refl _)) hms hmv).mono ?_
  rintro e wc ⟨rv, vv, F, rfl, R, _, xc⟩
  obtain ⟨Ar, cr, er0, _⟩ := R.r.sl.form
  subst er0
  obtain ⟨Av, cv, ev0, _⟩ := R.v.sl.form
  subst ev0
  have hS0 := Sx.new (ver := s.version) R xc.size
  have xs0 : Ext W3 (wc.alloc (.cells #[.int .i64 s.version, .slice Ar s.records.length cr, .slice Av s.verdicts.length cv] 34)) := xc.alloc _
  obtain ⟨⟨p0, p1, p2⟩, p3⟩ := HBX.out _ xs0
  clear R
  go_wp2_with fail
  obtain ⟨Wx, hWx⟩ : ∃ Wx, Wx = wc.alloc (.cells #[.int .i64 s.version, .slice Ar s.records.length cr, .slice Av s.verdicts.length cv] 34) := ⟨_, rfl⟩
  rw [← hWx] at hS0 xs0 p0 p1 p2 p3 ⊢
  obtain ⟨gx, hgx⟩ : ∃ gx, gx = wc.heap.size := ⟨_, rfl⟩
  rw [← hgx] at hS0 ⊢
  clear hWx hgx xc p0 p1 p2 p3
  refine (spec_IsValidStore _ s _ (HAT.out _ xs0)).mono ?_
  rintro e w1 ⟨rfl, x1⟩
  have x01 := xs0.trans x1
  have hS1 := hS0.ext x1
  clear x1 hS0 xs0
  cases hs : okSto s with
  | false =>
    have HNO := hid (appB_no (s := s) (b := b) fun h => by rw [hs] at h; cases h.1)
    obtain ⟨⟨g0, g1, g2⟩, gf⟩ := hS1.cells
    have R3 := hS1.r
    clear hs
    have bz := HZ.out _ (x01)
    obtain ⟨⟨z0, z1, z2⟩, zf⟩ := (⟨⟨bz.cells.1 0, bz.cells.1 1, bz.cells.1 2⟩, bz.cells.2⟩ : (_ ∧ _ ∧ _) ∧ _)
    have b9 := Blk.store3 bz (.int .i64 s.version) (.slice Ar (s.records).length cr) (.slice Av (s.verdicts).length cv)
    have r0 := b9.cells.1 0
    have r1 := b9.cells.1 1
    have r2 := b9.cells.1 2
    have HFIN := hid (show AppOut w (.returned (.tuple #[.agg #[.int .i64 s.version, .slice Ar (s.records).length cr, .slice Av (s.verdicts).length cv], .bool false])) (((w1.setCell ⟨w.heap.size + 1 + 1, 0, none⟩ (.int .i64 s.version)).setCell ⟨w.heap.size + 1 + 1, 1, none⟩ (.slice Ar (s.records).length cr)).setCell ⟨w.heap.size + 1 + 1, 2, none⟩ (.slice Av (s.verdicts).length cv)) (appB s b) from by
      have hsz := HS.out
      obtain ⟨n1, n2⟩ := (R3).r.below (g := w.heap.size + 1 + 1) (by omega)
      obtain ⟨_, n3⟩ := (R3).v.below (g := w.heap.size + 1 + 1) (by omega)
      rw [HNO.out]
      exact ⟨_, _, _, rfl, ((R3).kp (Kp.store3 (w.heap.size + 1 + 1) 0 _ _ _ _) n1 n2 n3).low (by omega), by first | exact HI.out | exact HIV.out, Ext.store3 (HX.out.trans (x01)) (by omega) _ _ _⟩)
    clear b9 bz
    go_wp2
    refine bodyPost_ret (v := .tuple #[.agg #[.int .i64 s.version, .slice Ar (s.records).length cr, .slice Av (s.verdicts).length cv], .bool false]) (by simp [results, Tryz.results8, go_sem, r0, r1, r2]) rfl ?_
    exact HFIN.out
  | true =>
    obtain ⟨⟨p0, p1, p2⟩, p3⟩ := HBX.out _ x01
    go_wp2_with fail
    refine (spec_IsValidBatch _ b _ ⟨_, rfl, trivial, HOPS.out _ x01⟩).mono ?_
    rintro e w2 ⟨rfl, x2⟩
    have x02 := x01.trans x2
    have hS2 := hS1.ext x2
    clear p0 p1 p2 p3 x2 x01 hS1
    cases hbt : okBat b with
    | false =>
      have HNO := hid (appB_no (s := s) (b := b) fun h => by rw [hbt] at h; cases h.2.1)
      obtain ⟨⟨g0, g1, g2⟩, gf⟩ := hS2.cells
      have R3 := hS2.r
      clear hs hbt
      have bz := HZ.out _ (x02)
      obtain ⟨⟨z0, z1, z2⟩, zf⟩ := (⟨⟨bz.cells.1 0, bz.cells.1 1, bz.cells.1 2⟩, bz.cells.2⟩ : (_ ∧ _ ∧ _) ∧ _)
      have b9 := Blk.store3 bz (.int .i64 s.version) (.slice Ar (s.records).length cr) (.slice Av (s.verdicts).length cv)
      have r0 := b9.cells.1 0
      have r1 := b9.cells.1 1
      have r2 := b9.cells.1 2
      have HFIN := hid (show AppOut w (.returned (.tuple #[.agg #[.int .i64 s.version, .slice Ar (s.records).length cr, .slice Av (s.verdicts).length cv], .bool false])) (((w2.setCell ⟨w.heap.size + 1 + 1, 0, none⟩ (.int .i64 s.version)).setCell ⟨w.heap.size + 1 + 1, 1, none⟩ (.slice Ar (s.records).length cr)).setCell ⟨w.heap.size + 1 + 1, 2, none⟩ (.slice Av (s.verdicts).length cv)) (appB s b) from by
        have hsz := HS.out
        obtain ⟨n1, n2⟩ := (R3).r.below (g := w.heap.size + 1 + 1) (by omega)
        obtain ⟨_, n3⟩ := (R3).v.below (g := w.heap.size + 1 + 1) (by omega)
        rw [HNO.out]
        exact ⟨_, _, _, rfl, ((R3).kp (Kp.store3 (w.heap.size + 1 + 1) 0 _ _ _ _) n1 n2 n3).low (by omega), by first | exact HI.out | exact HIV.out, Ext.store3 (HX.out.trans (x02)) (by omega) _ _ _⟩)
      clear b9 bz
      go_wp2
      refine bodyPost_ret (v := .tuple #[.agg #[.int .i64 s.version, .slice Ar (s.records).length cr, .slice Av (s.verdicts).length cv], .bool false]) (by simp [results, Tryz.results8, go_sem, r0, r1, r2]) rfl ?_
      exact HFIN.out
    | true =>
      have hall := okSto_all hs
      have hbops := okBat_ops hbt
      obtain ⟨⟨p0, p1, p2⟩, p3⟩ := HBX.out _ x02
      by_cases h999 : s.version = 999
      · have b999 : (s.version == 999) = true := by simp [h999]
        have HNO := hid (appB_no (s := s) (b := b) fun h => by rw [newSto_999 h999] at h; cases h.2.2)
        obtain ⟨⟨g0, g1, g2⟩, gf⟩ := hS2.cells
        have R3 := hS2.r
        clear hs hbt hall hbops h999
        have bz := HZ.out _ (x02)
        obtain ⟨⟨z0, z1, z2⟩, zf⟩ := (⟨⟨bz.cells.1 0, bz.cells.1 1, bz.cells.1 2⟩, bz.cells.2⟩ : (_ ∧ _ ∧ _) ∧ _)
        have b9 := Blk.store3 bz (.int .i64 s.version) (.slice Ar (s.records).length cr) (.slice Av (s.verdicts).length cv)
        have r0 := b9.cells.1 0
        have r1 := b9.cells.1 1
        have r2 := b9.cells.1 2
        have HFIN := hid (show AppOut w (.returned (.tuple #[.agg #[.int .i64 s.version, .slice Ar (s.records).length cr, .slice Av (s.verdicts).length cv], .bool false])) (((w2.setCell ⟨w.heap.size + 1 + 1, 0, none⟩ (.int .i64 s.version)).setCell ⟨w.heap.size + 1 + 1, 1, none⟩ (.slice Ar (s.records).length cr)).setCell ⟨w.heap.size + 1 + 1, 2, none⟩ (.slice Av (s.verdicts).length cv)) (appB s b) from by
          have hsz := HS.out
          obtain ⟨n1, n2⟩ := (R3).r.below (g := w.heap.size + 1 + 1) (by omega)
          obtain ⟨_, n3⟩ := (R3).v.below (g := w.heap.size + 1 + 1) (by omega)
          rw [HNO.out]
          exact ⟨_, _, _, rfl, ((R3).kp (Kp.store3 (w.heap.size + 1 + 1) 0 _ _ _ _) n1 n2 n3).low (by omega), by first | exact HI.out | exact HIV.out, Ext.store3 (HX.out.trans (x02)) (by omega) _ _ _⟩)
        clear b9 bz
        go_wp2
        refine bodyPost_ret (v := .tuple #[.agg #[.int .i64 s.version, .slice Ar (s.records).length cr, .slice Av (s.verdicts).length cv], .bool false]) (by simp [results, Tryz.results8, go_sem, r0, r1, r2]) rfl ?_
        exact HFIN.out
      · have b999 : (s.version == 999) = false := by simp [h999]
        obtain ⟨hgood, _, _, hv0, hv1, hrl8, hv8⟩ := hall
        obtain ⟨hn6, hops⟩ := hbops
        have hv2 : s.version ≤ 998 := by omega
        have HUP := hid (fun k (hk : k ≤ b.ops.length) => (show RAsc ((b.ops.take k).foldl upR2 s.records) ∧ (∀ x ∈ ((b.ops.take k).foldl upR2 s.records), okRec x = true) ∧ ((b.ops.take k).foldl upR2 s.records).length ≤ 8 + k from by rw [upR2_ok hs hbt k hk]; exact upR_ok hs hbt k hk))
        have HOK := hid hops
        have HSB := hid (And.intro hs hbt)
        have HN2 := hid (newSto2_eq hs hbt)
        clear hs hbt hgood hops h999 hv1
        have hS3 := hS2.setVer (s.version + 1)
        have xs3 : Ext W3 (w2.setCell ⟨gx, 0, none⟩ (.int .i64 (s.version + 1))) := x02.setCell hS2.hb _
        obtain ⟨⟨g0, g1, g2⟩, gf⟩ := hS2.cells
        obtain ⟨q0, q1⟩ := HBX.out _ xs3
        clear hS2 x02
        go_wp2_with fail
        obtain ⟨Wx, hWx⟩ : ∃ Wx, Wx = w2.setCell ⟨gx, 0, none⟩ (.int .i64 (s.version + 1)) := ⟨_, rfl⟩
        rw [← hWx] at hS3 xs3 q0 q1 ⊢
        clear hWx p0 p1 p2 p3 q0 q1 g0 g1 g2 gf
        go_loopw [7] (fun i wr => ∃ (k : Nat) (rv vv : Value) (F : List Nat), k ≤ b.ops.length ∧ i = .int .i64 k ∧ Sx wr W3.heap.size gx (s.version + 1) rv vv ((b.ops.take k).foldl upR2 s.records) ((b.ops.take k).foldl upV2 s.verdicts) F ∧ Ext W3 wr) (fun i _ => b.ops.length - (intOf i).toNat)
        case atStart => exact ⟨0, _, _, _, Nat.zero_le _, rfl, hS3, xs3⟩
        case round =>
          obtain ⟨k, rv, vv, F, hk, rfl, hS, hx⟩ := hrel
          obtain ⟨q0, q1⟩ := HBX.out _ hx
          by_cases hlt : k < b.ops.length
          · obtain ⟨hup1, hup2, hup3⟩ := HUP.out k hk
            have HUR := hid (fold_step upR2 s.records b.ops k hlt)
            have HUV := hid (fold_step upV2 s.verdicts b.ops k hlt)
            have hvl := upV2_len s.verdicts (b.ops.take k)
            have htl : (b.ops.take k).length ≤ 6 := by rw [List.length_take]; omega
            obtain ⟨b1, off, A2, cap2, eA, hok, hsl, c0, c1, c2, c3, c4, c5, c6, c7, c8⟩ := (HOPS.out _ hx).op hlt
            subst eA
            have hop : okOp b.ops[k] = true := HOK.out _ (List.getElem_mem hlt)
            have xb : Ext wr (wr.alloc (.cells #[.int .i64 b.ops[k].kind, .int .i64 b.ops[k].record.source, .int .i64 b.ops[k].record.key, .int .i64 b.ops[k].record.version, .slice A2 b.ops[k].record.fields.length cap2, .int .i64 b.ops[k].verdict.a, .int .i64 b.ops[k].verdict.b, .bool b.ops[k].verdict.same, .int .i64 b.ops[k].verdict.time] 76)) := (Ext.refl wr).alloc _
            have HOB := hid (show ∀ W, Ext (wr.alloc (.cells #[.int .i64 b.ops[k].kind, .int .i64 b.ops[k].record.source, .int .i64 b.ops[k].record.key, .int .i64 b.ops[k].record.version, .slice A2 b.ops[k].record.fields.length cap2, .int .i64 b.ops[k].verdict.a, .int .i64 b.ops[k].verdict.b, .bool b.ops[k].verdict.same, .int .i64 b.ops[k].verdict.time] 76)) W → W.cell? ⟨wr.heap.size, 0, none⟩ = some (.int .i64 b.ops[k].kind) ∧ OpCells W wr.heap.size b.ops[k] (.slice A2 b.ops[k].record.fields.length cap2) from fun W y => ⟨y.box.1 0, ⟨y.box.1 1, y.box.1 2, y.box.1 3, y.box.1 4⟩, y.box.1 5, y.box.1 6, y.box.1 7, y.box.1 8⟩)
            have hSb := hS.ext xb
            have hxb := hx.trans xb
            have hgb : gx < wr.heap.size := hS.lt
            have hgne : gx ≠ wr.heap.size := by omega
            have hgne2 : wr.heap.size ≠ gx := by omega
            obtain ⟨Ar, cr, er, _⟩ := hS.r.r.sl.form
            subst er
            obtain ⟨Av, cv, ev, _⟩ := hS.r.v.sl.form
            subst ev
            have HRV := hid (show ∀ W, Ext (wr.alloc (.cells #[.int .i64 b.ops[k].kind, .int .i64 b.ops[k].record.source, .int .i64 b.ops[k].record.key, .int .i64 b.ops[k].record.version, .slice A2 b.ops[k].record.fields.length cap2, .int .i64 b.ops[k].verdict.a, .int .i64 b.ops[k].verdict.b, .bool b.ops[k].verdict.same, .int .i64 b.ops[k].verdict.time] 76)) W → RecAt W (.agg #[.int .i64 b.ops[k].record.source, .int .i64 b.ops[k].record.key, .int .i64 b.ops[k].record.version, .slice A2 b.ops[k].record.fields.length cap2]) b.ops[k].record from fun W y => ⟨_, rfl, hok.2.1, (hsl.mono xb).mono y⟩)
            have HVO := hid hok.2.2
            obtain ⟨⟨g0, g1, g2⟩, gf⟩ := hSb.cells
            by_cases h1 : b.ops[k].kind = 1
            · have e1 : (b.ops[k].kind == 1) = true := by simp [h1]
              have e3 : (b.ops[k].kind == 3) = false := by simp [h1]
              have hrec : okRec b.ops[k].record = true := by
                rw [okOp_1 h1, Bool.and_eq_true] at hop
                exact hop.1
              have HPUT := hid (spec_l30Put _ _ _ b.ops[k].record (wr.alloc (.cells #[.int .i64 b.ops[k].kind, .int .i64 b.ops[k].record.source, .int .i64 b.ops[k].record.key, .int .i64 b.ops[k].record.version, .slice A2 b.ops[k].record.fields.length cap2, .int .i64 b.ops[k].verdict.a, .int .i64 b.ops[k].verdict.b, .bool b.ops[k].verdict.same, .int .i64 b.ops[k].verdict.time] 76)) hSb.r.r.sl (HRV.out _ (Ext.refl _)) (by omega) (by have := okRec_len hrec; omega) (fun x hx => by have := okRec_len (hup2 x hx); omega))
              have HST := hid (show upR2 ((b.ops.take k).foldl upR2 s.records) b.ops[k] = putF ((b.ops.take k).foldl upR2 s.records) b.ops[k].record ∧ upV2 ((b.ops.take k).foldl upV2 s.verdicts) b.ops[k] = ((b.ops.take k).foldl upV2 s.verdicts) from ⟨upR2_y h1, upV2_n (fun c => by omega)⟩)
              clear hup1 hup2 h1 hop hrec hok hsl
              go_wp2_with fail
              refine HPUT.out.mono ?_
              rintro e w5 ⟨v2, F2, rfl, hB2, x5⟩
              obtain ⟨Ar2, cr2, er2, _⟩ := hB2.sl.form
              subst er2
              have ip := InPl.fresh x5 hB2 W3.heap.size (.slice Ar ((b.ops.take k).foldl upR2 s.records).length cr) F
              obtain ⟨b5, hS5⟩ := hSb.putR (hB2.lowv hxb.size) ip
              have t1 := b5.cells.1 1
              have tf := b5.cells.2 1
              have k0 := (HOB.out _ x5).1
              have k1 : (w5.setCell ⟨gx, 1, none⟩ (.slice Ar2 (putF ((b.ops.take k).foldl upR2 s.records) b.ops[k].record).length cr2)).cell? ⟨wr.heap.size, 0, none⟩ = some (.int .i64 b.ops[k].kind) := by rw [cell_setOther (by omega)]; exact k0
              have HS5 := hid hS5
              have HX5 := hid ((hxb.trans x5).setCell (p := ⟨gx, 1, none⟩) hS.hb (.slice Ar2 (putF ((b.ops.take k).foldl upR2 s.records) b.ops[k].record).length cr2))
              clear hS5 b5 ip hB2 g0 g1 g2 gf hSb hS q0 q1
              go_wp2
              go_roundw
              case rel => exact ⟨k + 1, _, _, F2, by omega, by go_num, by rw [HUR.out, HUV.out, HST.out.1, HST.out.2]; exact HS5.out, HX5.out⟩
              case measure => simp [intOf]; omega
            · have e1 : (b.ops[k].kind == 1) = false := by simp [h1]
              by_cases h3 : b.ops[k].kind = 3
              · have e3 : (b.ops[k].kind == 3) = true := by simp [h3]
                have HAT2 := hid (spec_l28At (.slice Av ((b.ops.take k).foldl upV2 s.verdicts).length cv) ((b.ops.take k).foldl upV2 s.verdicts) b.ops[k].verdict (wr.alloc (.cells #[.int .i64 b.ops[k].kind, .int .i64 b.ops[k].record.source, .int .i64 b.ops[k].record.key, .int .i64 b.ops[k].record.version, .slice A2 b.ops[k].record.fields.length cap2, .int .i64 b.ops[k].verdict.a, .int .i64 b.ops[k].verdict.b, .bool b.ops[k].verdict.same, .int .i64 b.ops[k].verdict.time] 76)) hSb.r.v.sl)
                have hic := idxV_cases ((b.ops.take k).foldl upV2 s.verdicts) b.ops[k].verdict
                have HH3 := hid (And.intro h1 h3)
                obtain ⟨iv, hiv⟩ : ∃ i, i = idxV ((b.ops.take k).foldl upV2 s.verdicts) b.ops[k].verdict := ⟨_, rfl⟩
                rw [← hiv] at hic HAT2
                have HIX := hid hiv
                clear hup1 hup2 h1 h3 hop hok hsl hiv
                go_wp2_with fail
                refine HAT2.out.mono ?_
                rintro e w4 ⟨rfl, x4⟩
                have hS4 := hSb.ext x4
                have x4w := hxb.trans x4
                have k5 := (HOB.out _ x4).2.2.1
                have k6 := (HOB.out _ x4).2.2.2.1
                have k7 := (HOB.out _ x4).2.2.2.2.1
                have k8 := (HOB.out _ x4).2.2.2.2.2
                clear g0 g1 g2 gf q0 q1
                obtain ⟨⟨g0, g1, g2⟩, gf⟩ := hS4.cells
                rcases hic with ⟨hi, _⟩ | ⟨j, hj, hi, _⟩
                · subst hi
                  have HST := hid (show upR2 ((b.ops.take k).foldl upR2 s.records) b.ops[k] = ((b.ops.take k).foldl upR2 s.records) ∧ upV2 ((b.ops.take k).foldl upV2 s.verdicts) b.ops[k] = sortS (((b.ops.take k).foldl upV2 s.verdicts) ++ [b.ops[k].verdict]) from ⟨upR2_n HH3.out.1, upV2_y HH3.out.2 (by rw [← HIX.out]; decide)⟩)
                  have HSb := hid hS4
                  have HHB := hid hS.hb
                  have HVB := hid (show ∀ b0, wr.heap.size ≤ b0 → (.slice Av ((b.ops.take k).foldl upV2 s.verdicts).length cv : Value).ownBlock ≠ some b0 from fun b0 hb0 e => by have := (hS.r.v.lt.2 _ e).1; omega)
                  have HXW := hid x4w
                  have HWL := hid (show wr.heap.size < w4.heap.size from by have := x4.size; rw [World.size_alloc] at this; omega)
                  clear hSb hS hxb x4w xb hS4
                  go_wp2_with (at_builtin; refine wpList_app1k (R := verdictO) elemVer (by decide) rfl _ _ rfl HSb.out.r.v rfl _ 1 rfl (by simp) (one_ver _ _ _ _) (y := b.ops[k].verdict) ⟨⟨rfl, HVO.out⟩, rfl⟩ fresh_nil (by omega) (by decide) HXW.out.size ?_; intro v9 w9 hB9 hE9 hK9; obtain ⟨Av9, cv9, ev9, _⟩ := hB9.sl.form; obtain ⟨n9, hn9⟩ : ∃ n, n = (((b.ops.take k).foldl upV2 s.verdicts) ++ [b.ops[k].verdict]).length := ⟨_, rfl⟩; rw [← hn9] at ev9; subst ev9; have HB9 := hid hB9; have HN9 := hid hn9; clear hB9 hn9)
                  refine (spec_l28Sort _ _ _ HB9.out.sl (by rw [List.length_append, List.length_singleton]; omega)).mono ?_
                  rintro e w10 ⟨v10, rfl, hB10, x10⟩
                  have HKB := hid (show ∀ b0, b0 < w4.heap.size → (.slice Av ((b.ops.take k).foldl upV2 s.verdicts).length cv : Value).ownBlock ≠ some b0 → w10.heap[b0]? = w4.heap[b0]? ∧ b0 < w9.heap.size from fun b0 hb0 hv0 => keep_then hb0 ((hK9 [b0] (fun c hc => by rw [List.mem_singleton] at hc; rw [hc]; exact hb0) (fun c hc => by rw [List.mem_singleton] at hc; rw [hc]; exact hv0)).1 b0 (List.mem_singleton.2 rfl)) x10)
                  have hge4 : w4.heap.size ≤ w9.heap.size := by
                    have hwl := HWL.out
                    have := (HKB.out (w4.heap.size - 1) (by omega) (HVB.out _ (by omega))).2
                    omega
                  have x9w := hE9 W3 (Nat.le_refl _) HXW.out
                  obtain ⟨Av2, cv2, ev2, _⟩ := hB10.sl.form
                  obtain ⟨n2, hn2⟩ : ∃ n, n = (sortS (((b.ops.take k).foldl upV2 s.verdicts) ++ [b.ops[k].verdict])).length := ⟨_, rfl⟩
                  rw [← hn2] at ev2
                  subst ev2
                  obtain ⟨b5, hS5⟩ := HSb.out.putV (hB10.lowv x9w.size) (fun b0 hb0 hv0 => (HKB.out b0 hb0 hv0).1) (fun g9 hg9 => .inr (Nat.le_trans hge4 (hB10.lt.2 _ hg9).2))
                  have t1 := b5.cells.1 2
                  have tf := b5.cells.2 2
                  have HS5 := hid hS5
                  have HX5 := hid ((x9w.trans x10).setCell (p := ⟨gx, 2, none⟩) HHB.out (.slice Av2 n2 cv2))
                  clear hS5 x9w b5 hE9 hK9 hB10 HB9 HKB HVB HSb hge4 x10 hn2
                  go_wp2
                  go_roundw
                  case rel => exact ⟨k + 1, _, _, F, by omega, by go_num, by rw [HUR.out, HUV.out, HST.out.1, HST.out.2]; exact HS5.out, HX5.out⟩
                  case measure => simp [intOf]; omega
                · have hi0 : ¬ iv < 0 := by omega
                  have hi1 : (iv < 0) = False := by simp; omega
                  have HST := hid (show upR2 ((b.ops.take k).foldl upR2 s.records) b.ops[k] = ((b.ops.take k).foldl upR2 s.records) ∧ upV2 ((b.ops.take k).foldl upV2 s.verdicts) b.ops[k] = ((b.ops.take k).foldl upV2 s.verdicts) from ⟨upR2_n HH3.out.1, upV2_n (fun c => hi0 (by rw [HIX.out]; exact c.2))⟩)
                  have HS5 := hid hS4
                  have HX5 := hid x4w
                  have hi2 : decide (iv < 0) = false := by simp; omega
                  clear hi1 hi0 hi
                  go_wp2
                  go_roundw
                  case rel => exact ⟨k + 1, _, _, F, by omega, by go_num, by rw [HUR.out, HUV.out, HST.out.1, HST.out.2]; exact HS5.out, HX5.out⟩
                  case measure => simp [intOf]; omega
              · have e3 : (b.ops[k].kind == 3) = false := by simp [h3]
                have HST := hid (show upR2 ((b.ops.take k).foldl upR2 s.records) b.ops[k] = ((b.ops.take k).foldl upR2 s.records) ∧ upV2 ((b.ops.take k).foldl upV2 s.verdicts) b.ops[k] = ((b.ops.take k).foldl upV2 s.verdicts) from ⟨upR2_n h1, upV2_n (fun c => h3 c.1)⟩)
                have HS5 := hid hSb
                clear hup1 hup2 h1 h3 hop hok hsl
                go_wp2
                go_roundw
                case rel => exact ⟨k + 1, _, _, F, by omega, by go_num, by rw [HUR.out, HUV.out, HST.out.1, HST.out.2]; exact HS5.out, hxb⟩
                case measure => simp [intOf]; omega
          · have hkn : b.ops.take k = b.ops := List.take_of_length_le (by omega)
            rw [hkn] at hS
            clear hkn
            have hrl0 : (b.ops.foldl upR2 s.records).length ≤ 14 := by
              have := (HUP.out b.ops.length (Nat.le_refl _)).2.2
              rw [List.take_length] at this
              omega
            have hvl0 : (b.ops.foldl upV2 s.verdicts).length ≤ 14 := by
              have := upV2_len s.verdicts b.ops
              omega
            have HRL := hid (fun k => Nat.le_trans (dnR2_len (b.ops.foldl upR2 s.records) (b.ops.take k)) hrl0)
            have HVL := hid (fun k => Nat.le_trans (dnV2_len (b.ops.foldl upV2 s.verdicts) (b.ops.take k)) hvl0)
            have HIV := hid (show I64 (s.version + 1) from ⟨by omega, by omega⟩)
            clear hrl0 hvl0
            go_wp2_with fail
            clear q0 q1
            go_loopw [9] (fun i wr => ∃ (k : Nat) (rv vv : Value) (F : List Nat), k ≤ b.ops.length ∧ i = .int .i64 k ∧ Sx wr W3.heap.size gx (s.version + 1) rv vv ((b.ops.take k).foldl dnR2 (b.ops.foldl upR2 s.records)) ((b.ops.take k).foldl dnV2 (b.ops.foldl upV2 s.verdicts)) F ∧ Ext W3 wr) (fun i _ => b.ops.length - (intOf i).toNat)
            case atStart => exact ⟨0, _, _, _, Nat.zero_le _, rfl, hS, hx⟩
            clear hS hx hlt hk
            case round =>
              obtain ⟨k, rv, vv, F, hk, rfl, hS, hx⟩ := hrel
              obtain ⟨q0, q1⟩ := HBX.out _ hx
              by_cases hlt : k < b.ops.length
              · have hrl := HRL.out k
                have hvl := HVL.out k
                obtain ⟨rs, hrs⟩ : ∃ r, r = ((b.ops.take k).foldl dnR2 (b.ops.foldl upR2 s.records)) := ⟨_, rfl⟩
                obtain ⟨vs, hvs⟩ : ∃ r, r = ((b.ops.take k).foldl dnV2 (b.ops.foldl upV2 s.verdicts)) := ⟨_, rfl⟩
                have HUR := hid (show ((b.ops.take (k + 1)).foldl dnR2 (b.ops.foldl upR2 s.records)) = dnR2 rs b.ops[k] from by rw [hrs]; exact fold_step dnR2 (b.ops.foldl upR2 s.records) b.ops k hlt)
                have HUV := hid (show ((b.ops.take (k + 1)).foldl dnV2 (b.ops.foldl upV2 s.verdicts)) = dnV2 vs b.ops[k] from by rw [hvs]; exact fold_step dnV2 (b.ops.foldl upV2 s.verdicts) b.ops k hlt)
                rw [← hrs] at hS hrl
                rw [← hvs] at hS hvl
                clear hrs hvs
                obtain ⟨b1, off, A2, cap2, eA, hok, hsl, c0, c1, c2, c3, c4, c5, c6, c7, c8⟩ := (HOPS.out _ hx).op hlt
                subst eA
                have hop : okOp b.ops[k] = true := HOK.out _ (List.getElem_mem hlt)
                have xb : Ext wr (wr.alloc (.cells #[.int .i64 b.ops[k].kind, .int .i64 b.ops[k].record.source, .int .i64 b.ops[k].record.key, .int .i64 b.ops[k].record.version, .slice A2 b.ops[k].record.fields.length cap2, .int .i64 b.ops[k].verdict.a, .int .i64 b.ops[k].verdict.b, .bool b.ops[k].verdict.same, .int .i64 b.ops[k].verdict.time] 76)) := (Ext.refl wr).alloc _
                have HOB := hid (show ∀ W, Ext (wr.alloc (.cells #[.int .i64 b.ops[k].kind, .int .i64 b.ops[k].record.source, .int .i64 b.ops[k].record.key, .int .i64 b.ops[k].record.version, .slice A2 b.ops[k].record.fields.length cap2, .int .i64 b.ops[k].verdict.a, .int .i64 b.ops[k].verdict.b, .bool b.ops[k].verdict.same, .int .i64 b.ops[k].verdict.time] 76)) W → W.cell? ⟨wr.heap.size, 0, none⟩ = some (.int .i64 b.ops[k].kind) ∧ OpCells W wr.heap.size b.ops[k] (.slice A2 b.ops[k].record.fields.length cap2) from fun W y => ⟨y.box.1 0, ⟨y.box.1 1, y.box.1 2, y.box.1 3, y.box.1 4⟩, y.box.1 5, y.box.1 6, y.box.1 7, y.box.1 8⟩)
                have hSb := hS.ext xb
                have hxb := hx.trans xb
                have hgb : gx < wr.heap.size := hS.lt
                have hgne : gx ≠ wr.heap.size := by omega
                have hgne2 : wr.heap.size ≠ gx := by omega
                obtain ⟨Ar, cr, er, _⟩ := hS.r.r.sl.form
                subst er
                obtain ⟨Av, cv, ev, _⟩ := hS.r.v.sl.form
                subst ev
                have HRV := hid (show ∀ W, Ext (wr.alloc (.cells #[.int .i64 b.ops[k].kind, .int .i64 b.ops[k].record.source, .int .i64 b.ops[k].record.key, .int .i64 b.ops[k].record.version, .slice A2 b.ops[k].record.fields.length cap2, .int .i64 b.ops[k].verdict.a, .int .i64 b.ops[k].verdict.b, .bool b.ops[k].verdict.same, .int .i64 b.ops[k].verdict.time] 76)) W → RecAt W (.agg #[.int .i64 b.ops[k].record.source, .int .i64 b.ops[k].record.key, .int .i64 b.ops[k].record.version, .slice A2 b.ops[k].record.fields.length cap2]) b.ops[k].record from fun W y => ⟨_, rfl, hok.2.1, (hsl.mono xb).mono y⟩)
                have HVO := hid hok.2.2
                have HID64 := hid (recID_64 b.ops[k].record)
                have hfc := idxF_lt (fun r => recID r == recID b.ops[k].record) rs 0
                obtain ⟨id, hidE⟩ : ∃ i, i = recID b.ops[k].record := ⟨_, rfl⟩
                have HRID := hid (show ∀ W, Ext (wr.alloc (.cells #[.int .i64 b.ops[k].kind, .int .i64 b.ops[k].record.source, .int .i64 b.ops[k].record.key, .int .i64 b.ops[k].record.version, .slice A2 b.ops[k].record.fields.length cap2, .int .i64 b.ops[k].verdict.a, .int .i64 b.ops[k].verdict.b, .bool b.ops[k].verdict.same, .int .i64 b.ops[k].verdict.time] 76)) W → Calls Tryz.prog 41 #[.agg #[.int .i64 b.ops[k].record.source, .int .i64 b.ops[k].record.key, .int .i64 b.ops[k].record.version, .slice A2 b.ops[k].record.fields.length cap2]] W fun e w2 => e = .returned (.int .i64 id) ∧ Ext W w2 from fun W y => by rw [hidE]; exact spec_RecordID _ _ _ (HRV.out _ y))
                obtain ⟨fi, hfi⟩ : ∃ i, i = idxF (fun r => recID r == recID b.ops[k].record) 0 rs := ⟨_, rfl⟩
                have HFND := hid (show ∀ W, Ext (wr.alloc (.cells #[.int .i64 b.ops[k].kind, .int .i64 b.ops[k].record.source, .int .i64 b.ops[k].record.key, .int .i64 b.ops[k].record.version, .slice A2 b.ops[k].record.fields.length cap2, .int .i64 b.ops[k].verdict.a, .int .i64 b.ops[k].verdict.b, .bool b.ops[k].verdict.same, .int .i64 b.ops[k].verdict.time] 76)) W → Calls Tryz.prog 40 #[.agg #[.int .i64 (s.version + 1), .slice Ar rs.length cr, .slice Av vs.length cv], .int .i64 id] W fun e w2 => e = .returned (.int .i64 fi) ∧ Ext W w2 from fun W y => by rw [hfi, hidE]; exact spec_FindRecord _ ⟨s.version + 1, rs, vs⟩ _ _ ((hSb.ext y).at_ HIV.out) HID64.out)
                rw [← hfi] at hfc
                have HFI := hid hfi
                clear hfi hidE hok hsl hop HRV q0 q1
                have y0 : ∀ z : ExtOf (wr.alloc (.cells #[.int .i64 b.ops[k].kind, .int .i64 b.ops[k].record.source, .int .i64 b.ops[k].record.key, .int .i64 b.ops[k].record.version, .slice A2 b.ops[k].record.fields.length cap2, .int .i64 b.ops[k].verdict.a, .int .i64 b.ops[k].verdict.b, .bool b.ops[k].verdict.same, .int .i64 b.ops[k].verdict.time] 76)), z.1.cell? ⟨wr.heap.size, 0, none⟩ = _ := fun z => (HOB.out _ z.2).1
                have y1 : ∀ z : ExtOf (wr.alloc (.cells #[.int .i64 b.ops[k].kind, .int .i64 b.ops[k].record.source, .int .i64 b.ops[k].record.key, .int .i64 b.ops[k].record.version, .slice A2 b.ops[k].record.fields.length cap2, .int .i64 b.ops[k].verdict.a, .int .i64 b.ops[k].verdict.b, .bool b.ops[k].verdict.same, .int .i64 b.ops[k].verdict.time] 76)), z.1.cell? ⟨wr.heap.size, 1, none⟩ = _ := fun z => (HOB.out _ z.2).2.1.1
                have y2 : ∀ z : ExtOf (wr.alloc (.cells #[.int .i64 b.ops[k].kind, .int .i64 b.ops[k].record.source, .int .i64 b.ops[k].record.key, .int .i64 b.ops[k].record.version, .slice A2 b.ops[k].record.fields.length cap2, .int .i64 b.ops[k].verdict.a, .int .i64 b.ops[k].verdict.b, .bool b.ops[k].verdict.same, .int .i64 b.ops[k].verdict.time] 76)), z.1.cell? ⟨wr.heap.size, 2, none⟩ = _ := fun z => (HOB.out _ z.2).2.1.2.1
                have y3 : ∀ z : ExtOf (wr.alloc (.cells #[.int .i64 b.ops[k].kind, .int .i64 b.ops[k].record.source, .int .i64 b.ops[k].record.key, .int .i64 b.ops[k].record.version, .slice A2 b.ops[k].record.fields.length cap2, .int .i64 b.ops[k].verdict.a, .int .i64 b.ops[k].verdict.b, .bool b.ops[k].verdict.same, .int .i64 b.ops[k].verdict.time] 76)), z.1.cell? ⟨wr.heap.size, 3, none⟩ = _ := fun z => (HOB.out _ z.2).2.1.2.2.1
                have y4 : ∀ z : ExtOf (wr.alloc (.cells #[.int .i64 b.ops[k].kind, .int .i64 b.ops[k].record.source, .int .i64 b.ops[k].record.key, .int .i64 b.ops[k].record.version, .slice A2 b.ops[k].record.fields.length cap2, .int .i64 b.ops[k].verdict.a, .int .i64 b.ops[k].verdict.b, .bool b.ops[k].verdict.same, .int .i64 b.ops[k].verdict.time] 76)), z.1.cell? ⟨wr.heap.size, 4, none⟩ = _ := fun z => (HOB.out _ z.2).2.1.2.2.2
                have x0 : ∀ z : ExtOf (wr.alloc (.cells #[.int .i64 b.ops[k].kind, .int .i64 b.ops[k].record.source, .int .i64 b.ops[k].record.key, .int .i64 b.ops[k].record.version, .slice A2 b.ops[k].record.fields.length cap2, .int .i64 b.ops[k].verdict.a, .int .i64 b.ops[k].verdict.b, .bool b.ops[k].verdict.same, .int .i64 b.ops[k].verdict.time] 76)), z.1.cell? ⟨gx, 0, none⟩ = _ := fun z => (hSb.ext z.2).cells.1.1
                have x1 : ∀ z : ExtOf (wr.alloc (.cells #[.int .i64 b.ops[k].kind, .int .i64 b.ops[k].record.source, .int .i64 b.ops[k].record.key, .int .i64 b.ops[k].record.version, .slice A2 b.ops[k].record.fields.length cap2, .int .i64 b.ops[k].verdict.a, .int .i64 b.ops[k].verdict.b, .bool b.ops[k].verdict.same, .int .i64 b.ops[k].verdict.time] 76)), z.1.cell? ⟨gx, 1, none⟩ = _ := fun z => (hSb.ext z.2).cells.1.2.1
                have x2 : ∀ z : ExtOf (wr.alloc (.cells #[.int .i64 b.ops[k].kind, .int .i64 b.ops[k].record.source, .int .i64 b.ops[k].record.key, .int .i64 b.ops[k].record.version, .slice A2 b.ops[k].record.fields.length cap2, .int .i64 b.ops[k].verdict.a, .int .i64 b.ops[k].verdict.b, .bool b.ops[k].verdict.same, .int .i64 b.ops[k].verdict.time] 76)), z.1.cell? ⟨gx, 2, none⟩ = _ := fun z => (hSb.ext z.2).cells.1.2.2
                obtain ⟨q0, q1⟩ := HBX.out _ hx
                go_wp2_with fail
                refine wp_region_ext (by kernel_rfl) (by kernel_rfl) ?_
                repeat (go_big_quiet_step (((first | (go_at_call 41; with_reducible exact quiet_ext (HRID.out _ (Subtype.property _))) | (go_at_call 40; exact quiet_ext (HFND.out _ (Subtype.property _)))))))
                refine wpQuiet_nil ?_
                rintro w17 ⟨⟨_, x17⟩, rfl⟩
                clear y0 y1 y2 y3 y4 x0 x1 x2 q0 q1
                have hS17 := hSb.ext x17
                have x17w := hxb.trans x17
                have y0 : ∀ z : ExtOf w17, z.1.cell? ⟨wr.heap.size, 0, none⟩ = _ := fun z => (HOB.out _ (x17.trans z.2)).1
                have y3 : ∀ z : ExtOf w17, z.1.cell? ⟨wr.heap.size, 3, none⟩ = _ := fun z => (HOB.out _ (x17.trans z.2)).2.1.2.2.1
                have x1 : ∀ z : ExtOf w17, z.1.cell? ⟨gx, 1, none⟩ = _ := fun z => (hS17.ext z.2).cells.1.2.1
                by_cases h2 : b.ops[k].kind = 2
                · have b2 : (b.ops[k].kind == 2) = true := by simp [h2]
                  have b4 : (b.ops[k].kind == 4) = false := by simp [h2]
                  have HK4 := hid (show dnV2 vs b.ops[k] = vs from dnV2_n (by omega))
                  have HH2 := hid h2
                  clear h2
                  rcases hfc with ⟨hm1, _⟩ | ⟨j, hj, hfj, _, _⟩
                  · subst hm1
                    have HDN := hid (show dnR2 rs b.ops[k] = rs from dnR2_0 HH2.out HFI.out.symm)
                    go_wp2_with fail
                    refine wp_region_ext (by kernel_rfl) (by kernel_rfl) ?_
                    repeat (go_big_quiet_step ((fail)))
                    refine wpQuiet_nil ?_
                    rintro w18 ⟨⟨_, x18⟩, rfl⟩
                    clear y0 y3 x1
                    have hS8 := (hS17.ext x18)
                    have x8 := (x17w.trans x18)
                    have HB8 := hid (show ∀ W, Ext w18 W → W.cell? ⟨wr.heap.size, 0, none⟩ = some (.int .i64 b.ops[k].kind) ∧ OpCells W wr.heap.size b.ops[k] (.slice A2 b.ops[k].record.fields.length cap2) from fun W y => (HOB.out _ ((x17.trans x18).trans y)))
                    obtain ⟨⟨g0, g1, g2⟩, gf⟩ := hS8.cells
                    obtain ⟨_, _, k5, k6, k7, k8⟩ := HB8.out _ (Ext.refl _)
                    go_wp2_with fail
                    refine (spec_l28At (.slice Av vs.length cv) vs b.ops[k].verdict _ hS8.r.v.sl).mono ?_
                    rintro e w20 ⟨rfl, x20⟩
                    have HS5 := hid (hS8.ext x20)
                    have HX5 := hid (x8.trans x20)
                    obtain ⟨iv, hiv⟩ : ∃ i, i = idxV vs b.ops[k].verdict := ⟨_, rfl⟩
                    rw [← hiv]
                    clear hiv g0 g1 g2 gf k5 k6 k7 k8
                    have k0 := (HB8.out _ x20).1
                    clear hS8 x8
                    go_wp2
                    go_roundw
                    case rel => exact ⟨k + 1, _, _, F, by omega, by go_num, by rw [HUR.out, HUV.out, HDN.out, HK4.out]; exact HS5.out, HX5.out⟩
                    case measure => simp [intOf]; omega
                  · rw [Nat.zero_add] at hfj
                    subst hfj
                    obtain ⟨g, cap, _, e9, _⟩ := del_row rfl recs_one1 hS17.r.r hj
                    injection e9 with e9 _ e10
                    subst e9
                    subst e10
                    obtain ⟨b5, off5, _, _, e9, _, _, _, _, d2, _⟩ := hS17.r.r.sl.record hj
                    injection e9 with e9
                    injection e9 with e10 e11 _
                    subst e10
                    subst e11
                    rw [Nat.zero_add] at d2
                    have z2 : ∀ z : ExtOf w17, z.1.cell? ⟨g, j * 4 + 2, none⟩ = _ := fun z => z.2.cell d2
                    clear d2
                    by_cases hver : rs[j].version ≤ b.ops[k].record.version
                    · have bv : decide (rs[j].version ≤ b.ops[k].record.version) = true := by simp [hver]
                      have HDN := hid (show dnR2 rs b.ops[k] = rs.eraseIdx j from dnR2_y HH2.out hj HFI.out.symm hver)
                      clear hver
                      go_wp2_with fail
                      refine wp_region_ext (by kernel_rfl) (by kernel_rfl) ?_
                      repeat (go_big_quiet_step ((fail)))
                      refine wpQuiet_nil ?_
                      rintro w18 ⟨⟨_, x18⟩, rfl⟩
                      clear y0 y3 x1 z2
                      have hSq := hS17.ext x18
                      have hxq := x17w.trans x18
                      have HOC := hid (show ∀ W, Ext w18 W → W.cell? ⟨wr.heap.size, 0, none⟩ = some (.int .i64 b.ops[k].kind) ∧ OpCells W wr.heap.size b.ops[k] (.slice A2 b.ops[k].record.fields.length cap2) from fun W y => HOB.out _ ((x17.trans x18).trans y))
                      obtain ⟨wq, hwq⟩ : ∃ wq, wq = w18 := ⟨_, rfl⟩
                      rw [← hwq] at hSq hxq HOC ⊢
                      clear hwq x18 x17 x17w hS17 hS hSb hx hxb xb
                      obtain ⟨g9, cap9, cs, e9, ⟨hc1, hc2⟩, hcl, hcc, h1c, hdr⟩ := del_row rfl recs_one1 hSq.r.r hj
                      injection e9 with e9 _ e10
                      injection e9 with e9
                      injection e9 with e11 _ _
                      subst e11
                      subst e10
                      obtain ⟨A9, hA9⟩ : ∃ A9, (if cr = j + 1 then (some ⟨g, 0, none⟩ : Option Addr) else some ⟨g, (j + 1) * 4, none⟩) = A9 := ⟨_, rfl⟩
                      have HN1 := hid (show ∀ W, Ext wq W → 0 < j → ∃ ad, (some ⟨g, 0, none⟩ : Option Addr) = some ad ∧ ∀ i u, (cs.take (j * 4))[i]? = some u → W.cell? (ad.add i) = some u from fun W y _ => ⟨_, rfl, fun i u hi => by
                        rw [List.getElem?_take] at hi
                        split at hi
                        · have := hcc W y i u hi
                          rw [show (⟨g, 0, none⟩ : Addr).add i = ⟨g, i, none⟩ by by_cases h0 : i = 0 <;> simp [Addr.add, h0]]; exact this
                        · cases hi⟩)
                      have HN2 := hid (show ∀ W, Ext wq W → 0 < rs.length - (j + 1) → ∃ ad, A9 = some ad ∧ ∀ i u, (cs.drop ((j + 1) * 4))[i]? = some u → W.cell? (ad.add i) = some u from fun W y hp => ⟨⟨g, (j + 1) * 4, none⟩, by rw [← hA9, if_neg (by omega)], fun i u hi => by
                        rw [List.getElem?_drop] at hi
                        rw [show (⟨g, (j + 1) * 4, none⟩ : Addr).add i = ⟨g, (j + 1) * 4 + i, none⟩ by by_cases h0 : i = 0 <;> simp [Addr.add, h0]]
                        exact hcc W y _ u hi⟩)
                      have HL1 := hid (show (cs.take (j * 4)).length = j * 4 by rw [List.length_take, hcl]; omega)
                      have HL2 := hid (show (cs.drop ((j + 1) * 4)).length = (rs.length - (j + 1)) * 4 by rw [List.length_drop, hcl]; omega)
                      have HO1 := hid (show ∀ u ∈ cs.take (j * 4), u.oneCell' = true from fun u hu => h1c u (List.mem_of_mem_take hu))
                      have HO2 := hid (show ∀ u ∈ cs.drop ((j + 1) * 4), u.oneCell' = true from fun u hu => h1c u (List.mem_of_mem_drop hu))
                      have HDR := hid hdr
                      have HCW := hid (show ∀ W, Ext wq W → W.cell? ⟨gx, 1, none⟩ = some (.slice (some ⟨g, 0, none⟩) rs.length cr) ∧ ∀ i, W.frozen? ⟨gx, i, none⟩ = false from fun W y => ⟨(hSq.ext y).cells.1.2.1, (hSq.ext y).cells.2⟩)
                      have cw : wq.cell? ⟨gx, 1, none⟩ = some (.slice (some ⟨g, 0, none⟩) rs.length cr) := (HCW.out _ (Ext.refl _)).1
                      have HBD := hid (And.intro hrl hj)
                      have HSQ := hid hSq
                      have HXQ := hid hxq
                      have a1 : (j : Int) ≤ (cr : Int) := by omega
                      have a2 : j ≤ cr := by omega
                      have a3 : j + 1 ≤ cr := by omega
                      have a4 : (0 : Int) ≤ (j : Int) + 1 := by omega
                      have a5 : (j : Int) + 1 ≤ (rs.length : Int) := by omega
                      have a6 : IntKind.i64.wrap ((j : Int) + 1) = (j : Int) + 1 := by rw [IntKind.wrap_i64]; omega
                      have HAA := hid hA9
                      clear hcc h1c hdr hcl hSq hxq hc1 hc2 hrl
                      go_wp2_with fail
                      refine wp_region_J 13 (fun w' => w'.cell? ⟨gx, 1, none⟩ = some (.slice (some ⟨g, 0, none⟩) rs.length cr)) (by kernel_rfl) ?_
                      refine wpAnyJ_take (i := 1) (v := ?v1q) (by simp only [List.getElem?_toArray, List.getElem?_cons_succ, List.getElem?_cons_zero, Option.some.injEq]; exact rfl) (by kernel_rfl) (by kernel_rfl) (by kernel_rfl) (by kernel_rfl) (by exact fun _ _ _ h => h) (Or.inl ⟨by rfl, fun w9 hS9 => ?hy1q⟩) (by exact cw) ?rest1q
                      case hy1q => (try dsimp only at hS9); go_simp <;> with_reducible rfl
                      try simp only [Act.put, List.setIfInBounds_toArray, List.set_cons_zero, List.set_cons_succ]
                      refine wpAnyJ_take (i := 2) (v := ?v2q) (by simp only [List.getElem?_toArray, List.getElem?_cons_succ, List.getElem?_cons_zero, Option.some.injEq]; exact rfl) (by kernel_rfl) (by kernel_rfl) (by kernel_rfl) (by kernel_rfl) (by exact fun _ _ _ h => h) (Or.inl ⟨by rfl, fun w9 hS9 => ?hy2q⟩) (by exact cw) ?rest2q
                      case hy2q => (try dsimp only at hS9); go_simp <;> with_reducible rfl
                      try simp only [Act.put, List.setIfInBounds_toArray, List.set_cons_zero, List.set_cons_succ]
                      refine wpAnyJ_take (i := 3) (v := ?v3q) (by simp only [List.getElem?_toArray, List.getElem?_cons_succ, List.getElem?_cons_zero, Option.some.injEq]; exact rfl) (by kernel_rfl) (by kernel_rfl) (by kernel_rfl) (by kernel_rfl) (by exact fun _ _ _ h => h) (Or.inl ⟨by rfl, fun w9 hS9 => ?hy3q⟩) (by exact cw) ?rest3q
                      case hy3q => (try dsimp only at hS9); go_simp <;> with_reducible rfl
                      try simp only [Act.put, List.setIfInBounds_toArray, List.set_cons_zero, List.set_cons_succ]
                      refine wpAnyJ_take (i := 4) (v := ?v4q) (by simp only [List.getElem?_toArray, List.getElem?_cons_succ, List.getElem?_cons_zero, Option.some.injEq]; exact rfl) (by kernel_rfl) (by kernel_rfl) (by kernel_rfl) (by kernel_rfl) (by exact fun _ _ _ h => h) (Or.inl ⟨by rfl, fun w9 hS9 => ?hy4q⟩) (by exact cw) ?rest4q
                      case hy4q => (try dsimp only at hS9); go_simp <;> with_reducible rfl
                      try simp only [Act.put, List.setIfInBounds_toArray, List.set_cons_zero, List.set_cons_succ]
                      refine wpAnyJ_take (i := 6) (v := ?v6q) (by simp only [List.getElem?_toArray, List.getElem?_cons_succ, List.getElem?_cons_zero, Option.some.injEq]; exact rfl) (by kernel_rfl) (by kernel_rfl) (by kernel_rfl) (by kernel_rfl) (by exact fun _ _ _ h => h) (Or.inl ⟨by rfl, fun w9 hS9 => ?hy6q⟩) (by exact cw) ?rest6q
                      case hy6q => (try dsimp only at hS9); go_simp <;> with_reducible rfl
                      try simp only [Act.put, List.setIfInBounds_toArray, List.set_cons_zero, List.set_cons_succ]
                      refine wpAnyJ_take (i := 7) (v := ?v7q) (by simp only [List.getElem?_toArray, List.getElem?_cons_succ, List.getElem?_cons_zero, Option.some.injEq]; exact rfl) (by kernel_rfl) (by kernel_rfl) (by kernel_rfl) (by kernel_rfl) (by exact fun _ _ _ h => h) (Or.inl ⟨by rfl, fun w9 hS9 => ?hy7q⟩) (by exact cw) ?rest7q
                      case hy7q => (try dsimp only at hS9); go_simp <;> with_reducible rfl
                      try simp only [Act.put, List.setIfInBounds_toArray, List.set_cons_zero, List.set_cons_succ]
                      refine wpAnyJ_take (i := 8) (v := ?v8q) (by simp only [List.getElem?_toArray, List.getElem?_cons_succ, List.getElem?_cons_zero, Option.some.injEq]; exact rfl) (by kernel_rfl) (by kernel_rfl) (by kernel_rfl) (by kernel_rfl) (by exact fun _ _ _ h => h) (Or.inl ⟨by rfl, fun w9 hS9 => ?hy8q⟩) (by exact cw) ?rest8q
                      case hy8q => (try dsimp only at hS9); go_simp <;> with_reducible rfl
                      try simp only [Act.put, List.setIfInBounds_toArray, List.set_cons_zero, List.set_cons_succ]
                      refine wpAnyJ_take (i := 9) (v := ?v9q) (by simp only [List.getElem?_toArray, List.getElem?_cons_succ, List.getElem?_cons_zero, Option.some.injEq]; exact rfl) (by kernel_rfl) (by kernel_rfl) (by kernel_rfl) (by kernel_rfl) (by exact fun _ _ _ h => h) (Or.inl ⟨by rfl, fun w9 hS9 => ?hy9q⟩) (by exact cw) ?rest9q
                      case hy9q => (try dsimp only at hS9); go_simp <;> with_reducible rfl
                      try simp only [Act.put, List.setIfInBounds_toArray, List.set_cons_zero, List.set_cons_succ]
                      refine wpAnyJ_take (i := 10) (v := ?v10q) (by simp only [List.getElem?_toArray, List.getElem?_cons_succ, List.getElem?_cons_zero, Option.some.injEq]; exact rfl) (by kernel_rfl) (by kernel_rfl) (by kernel_rfl) (by kernel_rfl) (by exact fun _ _ _ h => h) (Or.inl ⟨by rfl, fun w9 hS9 => ?hy10q⟩) (by exact cw) ?rest10q
                      case hy10q => (try dsimp only at hS9); go_simp <;> with_reducible rfl
                      try simp only [Act.put, List.setIfInBounds_toArray, List.set_cons_zero, List.set_cons_succ]
                      refine wpAnyJ_one (i := 0) (by simp only [List.getElem?_toArray, List.getElem?_cons_succ, List.getElem?_cons_zero, Option.some.injEq]; exact rfl) (by kernel_rfl) (fun K hK => ?_)
                      go_simp
                      have xz : Ext wq (wq.drew.alloc (.cells #[] 72)) := (Ext.refl wq).drew.alloc _
                      have HE := hid (show (wq.drew.alloc (.cells #[] 72)).heap[wq.heap.size]? = some (.cells #[] 72 (0, 0)) from heap_alloc_new wq.drew _)
                      refine hK _ _ (HCW.out _ xz).1 ?_
                      try simp only [Act.put, List.setIfInBounds_toArray, List.set_cons_zero, List.set_cons_succ]
                      clear hK K
                      refine wpAnyJ_one (i := 5) (by simp only [List.getElem?_toArray, List.getElem?_cons_succ, List.getElem?_cons_zero, Option.some.injEq]; exact rfl) (by kernel_rfl) (fun K hK => ?_)
                      refine step_appq elemRec (by decide) rfl _ _ rfl (ownsRow_lit (base := wq.heap.size) (Nat.le_refl _) HE.out) rfl (A := some ⟨g, 0, none⟩) (n := j) rfl (news := cs.take (j * 4)) HL1.out (HN1.out _ xz) HO1.out (by have := HBD.out; omega) xz.size (w0 := wq) (Nat.le_refl _) xz ?_
                      intro v4 w4 hO1 xs1 _
                      rw [Nat.zero_add, List.nil_append] at hO1
                      refine hK _ _ (HCW.out _ xs1).1 ?_
                      try simp only [Act.put, List.setIfInBounds_toArray, List.set_cons_zero, List.set_cons_succ]
                      clear hK K
                      refine wpAnyJ_one (i := 11) (by simp only [List.getElem?_toArray, List.getElem?_cons_succ, List.getElem?_cons_zero, Option.some.injEq]; exact rfl) (by kernel_rfl) (fun K hK => ?_)
                      refine step_appq elemRec (by decide) rfl _ _ rfl hO1 rfl (A := A9) (n := rs.length - (j + 1)) rfl (news := cs.drop ((j + 1) * 4)) HL2.out (HN2.out _ xs1) HO2.out (by have := HBD.out; omega) xs1.size (w0 := wq) (Nat.le_refl _) xs1 ?_
                      intro v5 w5 hO2 xs2 _
                      obtain ⟨F5, hB5, ip5⟩ := HDR.out w5 v5 hO2 xs2 HXQ.out.size
                      obtain ⟨A5, c5, e5, _⟩ := hB5.sl.form
                      obtain ⟨n5, hn5⟩ : ∃ n, n = (rs.eraseIdx j).length := ⟨_, rfl⟩
                      rw [← hn5] at e5
                      subst e5
                      clear hO2 hO1 hn5
                      refine hK _ _ (HCW.out _ xs2).1 ?_
                      try simp only [Act.put, List.setIfInBounds_toArray, List.set_cons_zero, List.set_cons_succ]
                      clear hK K
                      refine wpAnyJ_one (i := 12) (by simp only [List.getElem?_toArray, List.getElem?_cons_succ, List.getElem?_cons_zero, Option.some.injEq]; exact rfl) (by kernel_rfl) (fun K hK => ?_)
                      go_simp
                      refine hK _ _ (HCW.out _ xs2).1 ?_
                      try simp only [Act.put, List.setIfInBounds_toArray, List.set_cons_zero, List.set_cons_succ]
                      clear hK K
                      have c9 := (HCW.out _ xs2).1
                      have f9 := (HCW.out _ xs2).2 1
                      refine wpAnyJ_last (by simp only [List.getElem?_toArray, List.getElem?_cons_succ, List.getElem?_cons_zero, Option.some.injEq]; exact rfl) (by kernel_rfl) (by kernel_rfl) (fun K hK => ?_)
                      go_simp
                      refine hK _ _ ?_
                      clear hK K c9 f9
                      obtain ⟨b9, hS9⟩ := HSQ.out.putR hB5 ip5
                      have x9 : Ext W3 (w5.setCell ⟨gx, 1, none⟩ (.slice A5 n5 c5)) := (HXQ.out.trans xs2).setCell HSQ.out.hb _
                      have HOC9 := hid (show (w5.setCell ⟨gx, 1, none⟩ (.slice A5 n5 c5)).cell? ⟨wr.heap.size, 0, none⟩ = some (.int .i64 b.ops[k].kind) ∧ OpCells (w5.setCell ⟨gx, 1, none⟩ (.slice A5 n5 c5)) wr.heap.size b.ops[k] (.slice A2 b.ops[k].record.fields.length cap2) from by
                        have h5 := HOC.out _ xs2
                        unfold OpCells
                        simp only [cell_setOther hgne2]
                        exact h5)
                      obtain ⟨W9, hW9⟩ : ∃ W9, W9 = w5.setCell ⟨gx, 1, none⟩ (.slice A5 n5 c5) := ⟨_, rfl⟩
                      rw [← hW9] at hS9 x9 HOC9 ⊢
                      clear hW9 b9 hB5 ip5 cw a1 a2 a3 a4 a5 a6 xs2 xs1 xz
                      have hS8 := hS9
                      have x8 := x9
                      have HB8 := hid (show ∀ W, Ext W9 W → W.cell? ⟨wr.heap.size, 0, none⟩ = some (.int .i64 b.ops[k].kind) ∧ OpCells W wr.heap.size b.ops[k] (.slice A2 b.ops[k].record.fields.length cap2) from fun W y => (show W.cell? ⟨wr.heap.size, 0, none⟩ = some (.int .i64 b.ops[k].kind) ∧ OpCells W wr.heap.size b.ops[k] (.slice A2 b.ops[k].record.fields.length cap2) from ⟨y.cell HOC9.out.1, HOC9.out.2.ext y⟩))
                      obtain ⟨⟨g0, g1, g2⟩, gf⟩ := hS8.cells
                      obtain ⟨_, _, k5, k6, k7, k8⟩ := HB8.out _ (Ext.refl _)
                      go_wp2_with fail
                      refine (spec_l28At (.slice Av vs.length cv) vs b.ops[k].verdict _ hS8.r.v.sl).mono ?_
                      rintro e w20 ⟨rfl, x20⟩
                      have HS5 := hid (hS8.ext x20)
                      have HX5 := hid (x8.trans x20)
                      obtain ⟨iv, hiv⟩ : ∃ i, i = idxV vs b.ops[k].verdict := ⟨_, rfl⟩
                      rw [← hiv]
                      clear hiv g0 g1 g2 gf k5 k6 k7 k8
                      have k0 := (HB8.out _ x20).1
                      clear hS8 x8
                      go_wp2
                      go_roundw
                      case rel => exact ⟨k + 1, _, _, F5, by omega, by go_num, by rw [HUR.out, HUV.out, HDN.out, HK4.out]; exact HS5.out, HX5.out⟩
                      case measure => simp [intOf]; omega
                    · have bv : decide (rs[j].version ≤ b.ops[k].record.version) = false := by simp [hver]
                      have HDN := hid (show dnR2 rs b.ops[k] = rs from dnR2_v HH2.out hj HFI.out.symm hver)
                      clear hver
                      go_wp2_with fail
                      refine wp_region_ext (by kernel_rfl) (by kernel_rfl) ?_
                      repeat (go_big_quiet_step ((fail)))
                      refine wpQuiet_nil ?_
                      rintro w18 ⟨⟨_, x18⟩, rfl⟩
                      clear y0 y3 x1 z2
                      have hS8 := (hS17.ext x18)
                      have x8 := (x17w.trans x18)
                      have HB8 := hid (show ∀ W, Ext w18 W → W.cell? ⟨wr.heap.size, 0, none⟩ = some (.int .i64 b.ops[k].kind) ∧ OpCells W wr.heap.size b.ops[k] (.slice A2 b.ops[k].record.fields.length cap2) from fun W y => (HOB.out _ ((x17.trans x18).trans y)))
                      obtain ⟨⟨g0, g1, g2⟩, gf⟩ := hS8.cells
                      obtain ⟨_, _, k5, k6, k7, k8⟩ := HB8.out _ (Ext.refl _)
                      go_wp2_with fail
                      refine (spec_l28At (.slice Av vs.length cv) vs b.ops[k].verdict _ hS8.r.v.sl).mono ?_
                      rintro e w20 ⟨rfl, x20⟩
                      have HS5 := hid (hS8.ext x20)
                      have HX5 := hid (x8.trans x20)
                      obtain ⟨iv, hiv⟩ : ∃ i, i = idxV vs b.ops[k].verdict := ⟨_, rfl⟩
                      rw [← hiv]
                      clear hiv g0 g1 g2 gf k5 k6 k7 k8
                      have k0 := (HB8.out _ x20).1
                      clear hS8 x8
                      go_wp2
                      go_roundw
                      case rel => exact ⟨k + 1, _, _, F, by omega, by go_num, by rw [HUR.out, HUV.out, HDN.out, HK4.out]; exact HS5.out, HX5.out⟩
                      case measure => simp [intOf]; omega
                · have b2 : (b.ops[k].kind == 2) = false := by simp [h2]
                  have HDN := hid (show dnR2 rs b.ops[k] = rs from dnR2_n h2)
                  clear hfc h2
                  go_wp2_with fail
                  refine wp_region_ext (by kernel_rfl) (by kernel_rfl) ?_
                  repeat (go_big_quiet_step ((fail)))
                  refine wpQuiet_nil ?_
                  rintro w18 ⟨⟨_, x18⟩, rfl⟩
                  clear y0 y3 x1
                  by_cases h4 : b.ops[k].kind = 4
                  · have b4 : (b.ops[k].kind == 4) = true := by simp [h4]
                    have HH4 := hid h4
                    have hic := idxV_cases vs b.ops[k].verdict
                    clear h4
                    have hS8 := hS17.ext x18
                    have x8 := x17w.trans x18
                    have HB8 := hid (show ∀ W, Ext w18 W → W.cell? ⟨wr.heap.size, 0, none⟩ = some (.int .i64 b.ops[k].kind) ∧ OpCells W wr.heap.size b.ops[k] (.slice A2 b.ops[k].record.fields.length cap2) from fun W y => HOB.out _ ((x17.trans x18).trans y))
                    obtain ⟨⟨g0, g1, g2⟩, gf⟩ := hS8.cells
                    obtain ⟨_, _, k5, k6, k7, k8⟩ := HB8.out _ (Ext.refl _)
                    go_wp2_with fail
                    refine (spec_l28At (.slice Av vs.length cv) vs b.ops[k].verdict _ hS8.r.v.sl).mono ?_
                    rintro e w20 ⟨rfl, x20⟩
                    have hSq := hS8.ext x20
                    have hxq := x8.trans x20
                    have k0 := (HB8.out _ x20).1
                    clear g0 g1 g2 gf k5 k6 k7 k8 hS8 x8
                    rcases hic with ⟨hi, _⟩ | ⟨j, hj, hi, _⟩
                    · have HDV := hid (show dnV2 vs b.ops[k] = vs from dnV2_0 hi)
                      rw [hi]
                      clear hi
                      have HS5 := hid hSq
                      have HX5 := hid hxq
                      clear hSq hxq
                      go_wp2
                      go_roundw
                      case rel => exact ⟨k + 1, _, _, F, by omega, by go_num, by rw [HUR.out, HUV.out, HDN.out, HDV.out]; exact HS5.out, HX5.out⟩
                      case measure => simp [intOf]; omega
                    · have HDV := hid (show dnV2 vs b.ops[k] = vs.eraseIdx j from dnV2_y HH4.out hi)
                      rw [hi]
                      clear hi
                      have hj0 : (0 : Int) ≤ (j : Int) := by omega
                      obtain ⟨g, cap, _, e9, _⟩ := del_row rfl vers_one1 hSq.r.v hj
                      injection e9 with e9 _ e10
                      subst e9
                      subst e10
                      have HOC := hid (show ∀ W, Ext w20 W → W.cell? ⟨wr.heap.size, 0, none⟩ = some (.int .i64 b.ops[k].kind) ∧ OpCells W wr.heap.size b.ops[k] (.slice A2 b.ops[k].record.fields.length cap2) from fun W y => HB8.out _ (x20.trans y))
                      obtain ⟨wq, hwq⟩ : ∃ wq, wq = w20 := ⟨_, rfl⟩
                      rw [← hwq] at hSq hxq HOC k0 ⊢
                      clear hwq x20 x18 x17 x17w hS17 hS hSb hx hxb xb hrl
                      have hrl := hvl
                      obtain ⟨g9, cap9, cs, e9, ⟨hc1, hc2⟩, hcl, hcc, h1c, hdr⟩ := del_row rfl vers_one1 hSq.r.v hj
                      injection e9 with e9 _ e10
                      injection e9 with e9
                      injection e9 with e11 _ _
                      subst e11
                      subst e10
                      obtain ⟨A9, hA9⟩ : ∃ A9, (if cv = j + 1 then (some ⟨g, 0, none⟩ : Option Addr) else some ⟨g, (j + 1) * 4, none⟩) = A9 := ⟨_, rfl⟩
                      have HN1 := hid (show ∀ W, Ext wq W → 0 < j → ∃ ad, (some ⟨g, 0, none⟩ : Option Addr) = some ad ∧ ∀ i u, (cs.take (j * 4))[i]? = some u → W.cell? (ad.add i) = some u from fun W y _ => ⟨_, rfl, fun i u hi => by
                        rw [List.getElem?_take] at hi
                        split at hi
                        · have := hcc W y i u hi
                          rw [show (⟨g, 0, none⟩ : Addr).add i = ⟨g, i, none⟩ by by_cases h0 : i = 0 <;> simp [Addr.add, h0]]; exact this
                        · cases hi⟩)
                      have HN2 := hid (show ∀ W, Ext wq W → 0 < vs.length - (j + 1) → ∃ ad, A9 = some ad ∧ ∀ i u, (cs.drop ((j + 1) * 4))[i]? = some u → W.cell? (ad.add i) = some u from fun W y hp => ⟨⟨g, (j + 1) * 4, none⟩, by rw [← hA9, if_neg (by omega)], fun i u hi => by
                        rw [List.getElem?_drop] at hi
                        rw [show (⟨g, (j + 1) * 4, none⟩ : Addr).add i = ⟨g, (j + 1) * 4 + i, none⟩ by by_cases h0 : i = 0 <;> simp [Addr.add, h0]]
                        exact hcc W y _ u hi⟩)
                      have HL1 := hid (show (cs.take (j * 4)).length = j * 4 by rw [List.length_take, hcl]; omega)
                      have HL2 := hid (show (cs.drop ((j + 1) * 4)).length = (vs.length - (j + 1)) * 4 by rw [List.length_drop, hcl]; omega)
                      have HO1 := hid (show ∀ u ∈ cs.take (j * 4), u.oneCell' = true from fun u hu => h1c u (List.mem_of_mem_take hu))
                      have HO2 := hid (show ∀ u ∈ cs.drop ((j + 1) * 4), u.oneCell' = true from fun u hu => h1c u (List.mem_of_mem_drop hu))
                      have HDR := hid hdr
                      have HCW := hid (show ∀ W, Ext wq W → W.cell? ⟨gx, 2, none⟩ = some (.slice (some ⟨g, 0, none⟩) vs.length cv) ∧ ∀ i, W.frozen? ⟨gx, i, none⟩ = false from fun W y => ⟨(hSq.ext y).cells.1.2.2, (hSq.ext y).cells.2⟩)
                      have cw : wq.cell? ⟨gx, 2, none⟩ = some (.slice (some ⟨g, 0, none⟩) vs.length cv) := (HCW.out _ (Ext.refl _)).1
                      have HBD := hid (And.intro hrl hj)
                      have HSQ := hid hSq
                      have HXQ := hid hxq
                      have a1 : (j : Int) ≤ (cv : Int) := by omega
                      have a2 : j ≤ cv := by omega
                      have a3 : j + 1 ≤ cv := by omega
                      have a4 : (0 : Int) ≤ (j : Int) + 1 := by omega
                      have a5 : (j : Int) + 1 ≤ (vs.length : Int) := by omega
                      have a6 : IntKind.i64.wrap ((j : Int) + 1) = (j : Int) + 1 := by rw [IntKind.wrap_i64]; omega
                      have HAA := hid hA9
                      clear hcc h1c hdr hcl hSq hxq hc1 hc2 hrl
                      go_wp2_with fail
                      refine wp_region_J 13 (fun w' => w'.cell? ⟨gx, 2, none⟩ = some (.slice (some ⟨g, 0, none⟩) vs.length cv)) (by kernel_rfl) ?_
                      refine wpAnyJ_take (i := 1) (v := ?v1p) (by simp only [List.getElem?_toArray, List.getElem?_cons_succ, List.getElem?_cons_zero, Option.some.injEq]; exact rfl) (by kernel_rfl) (by kernel_rfl) (by kernel_rfl) (by kernel_rfl) (by exact fun _ _ _ h => h) (Or.inl ⟨by rfl, fun w9 hS9 => ?hy1p⟩) (by exact cw) ?rest1p
                      case hy1p => (try dsimp only at hS9); go_simp <;> with_reducible rfl
                      try simp only [Act.put, List.setIfInBounds_toArray, List.set_cons_zero, List.set_cons_succ]
                      refine wpAnyJ_take (i := 2) (v := ?v2p) (by simp only [List.getElem?_toArray, List.getElem?_cons_succ, List.getElem?_cons_zero, Option.some.injEq]; exact rfl) (by kernel_rfl) (by kernel_rfl) (by kernel_rfl) (by kernel_rfl) (by exact fun _ _ _ h => h) (Or.inl ⟨by rfl, fun w9 hS9 => ?hy2p⟩) (by exact cw) ?rest2p
                      case hy2p => (try dsimp only at hS9); go_simp <;> with_reducible rfl
                      try simp only [Act.put, List.setIfInBounds_toArray, List.set_cons_zero, List.set_cons_succ]
                      refine wpAnyJ_take (i := 3) (v := ?v3p) (by simp only [List.getElem?_toArray, List.getElem?_cons_succ, List.getElem?_cons_zero, Option.some.injEq]; exact rfl) (by kernel_rfl) (by kernel_rfl) (by kernel_rfl) (by kernel_rfl) (by exact fun _ _ _ h => h) (Or.inl ⟨by rfl, fun w9 hS9 => ?hy3p⟩) (by exact cw) ?rest3p
                      case hy3p => (try dsimp only at hS9); go_simp <;> with_reducible rfl
                      try simp only [Act.put, List.setIfInBounds_toArray, List.set_cons_zero, List.set_cons_succ]
                      refine wpAnyJ_take (i := 4) (v := ?v4p) (by simp only [List.getElem?_toArray, List.getElem?_cons_succ, List.getElem?_cons_zero, Option.some.injEq]; exact rfl) (by kernel_rfl) (by kernel_rfl) (by kernel_rfl) (by kernel_rfl) (by exact fun _ _ _ h => h) (Or.inl ⟨by rfl, fun w9 hS9 => ?hy4p⟩) (by exact cw) ?rest4p
                      case hy4p => (try dsimp only at hS9); go_simp <;> with_reducible rfl
                      try simp only [Act.put, List.setIfInBounds_toArray, List.set_cons_zero, List.set_cons_succ]
                      refine wpAnyJ_take (i := 6) (v := ?v6p) (by simp only [List.getElem?_toArray, List.getElem?_cons_succ, List.getElem?_cons_zero, Option.some.injEq]; exact rfl) (by kernel_rfl) (by kernel_rfl) (by kernel_rfl) (by kernel_rfl) (by exact fun _ _ _ h => h) (Or.inl ⟨by rfl, fun w9 hS9 => ?hy6p⟩) (by exact cw) ?rest6p
                      case hy6p => (try dsimp only at hS9); go_simp <;> with_reducible rfl
                      try simp only [Act.put, List.setIfInBounds_toArray, List.set_cons_zero, List.set_cons_succ]
                      refine wpAnyJ_take (i := 7) (v := ?v7p) (by simp only [List.getElem?_toArray, List.getElem?_cons_succ, List.getElem?_cons_zero, Option.some.injEq]; exact rfl) (by kernel_rfl) (by kernel_rfl) (by kernel_rfl) (by kernel_rfl) (by exact fun _ _ _ h => h) (Or.inl ⟨by rfl, fun w9 hS9 => ?hy7p⟩) (by exact cw) ?rest7p
                      case hy7p => (try dsimp only at hS9); go_simp <;> with_reducible rfl
                      try simp only [Act.put, List.setIfInBounds_toArray, List.set_cons_zero, List.set_cons_succ]
                      refine wpAnyJ_take (i := 8) (v := ?v8p) (by simp only [List.getElem?_toArray, List.getElem?_cons_succ, List.getElem?_cons_zero, Option.some.injEq]; exact rfl) (by kernel_rfl) (by kernel_rfl) (by kernel_rfl) (by kernel_rfl) (by exact fun _ _ _ h => h) (Or.inl ⟨by rfl, fun w9 hS9 => ?hy8p⟩) (by exact cw) ?rest8p
                      case hy8p => (try dsimp only at hS9); go_simp <;> with_reducible rfl
                      try simp only [Act.put, List.setIfInBounds_toArray, List.set_cons_zero, List.set_cons_succ]
                      refine wpAnyJ_take (i := 9) (v := ?v9p) (by simp only [List.getElem?_toArray, List.getElem?_cons_succ, List.getElem?_cons_zero, Option.some.injEq]; exact rfl) (by kernel_rfl) (by kernel_rfl) (by kernel_rfl) (by kernel_rfl) (by exact fun _ _ _ h => h) (Or.inl ⟨by rfl, fun w9 hS9 => ?hy9p⟩) (by exact cw) ?rest9p
                      case hy9p => (try dsimp only at hS9); go_simp <;> with_reducible rfl
                      try simp only [Act.put, List.setIfInBounds_toArray, List.set_cons_zero, List.set_cons_succ]
                      refine wpAnyJ_take (i := 10) (v := ?v10p) (by simp only [List.getElem?_toArray, List.getElem?_cons_succ, List.getElem?_cons_zero, Option.some.injEq]; exact rfl) (by kernel_rfl) (by kernel_rfl) (by kernel_rfl) (by kernel_rfl) (by exact fun _ _ _ h => h) (Or.inl ⟨by rfl, fun w9 hS9 => ?hy10p⟩) (by exact cw) ?rest10p
                      case hy10p => (try dsimp only at hS9); go_simp <;> with_reducible rfl
                      try simp only [Act.put, List.setIfInBounds_toArray, List.set_cons_zero, List.set_cons_succ]
                      refine wpAnyJ_one (i := 0) (by simp only [List.getElem?_toArray, List.getElem?_cons_succ, List.getElem?_cons_zero, Option.some.injEq]; exact rfl) (by kernel_rfl) (fun K hK => ?_)
                      go_simp
                      have xz : Ext wq (wq.drew.alloc (.cells #[] 74)) := (Ext.refl wq).drew.alloc _
                      have HE := hid (show (wq.drew.alloc (.cells #[] 74)).heap[wq.heap.size]? = some (.cells #[] 74 (0, 0)) from heap_alloc_new wq.drew _)
                      refine hK _ _ (HCW.out _ xz).1 ?_
                      try simp only [Act.put, List.setIfInBounds_toArray, List.set_cons_zero, List.set_cons_succ]
                      clear hK K
                      refine wpAnyJ_one (i := 5) (by simp only [List.getElem?_toArray, List.getElem?_cons_succ, List.getElem?_cons_zero, Option.some.injEq]; exact rfl) (by kernel_rfl) (fun K hK => ?_)
                      refine step_appq elemVer (by decide) rfl _ _ rfl (ownsRow_lit (base := wq.heap.size) (Nat.le_refl _) HE.out) rfl (A := some ⟨g, 0, none⟩) (n := j) rfl (news := cs.take (j * 4)) HL1.out (HN1.out _ xz) HO1.out (by have := HBD.out; omega) xz.size (w0 := wq) (Nat.le_refl _) xz ?_
                      intro v4 w4 hO1 xs1 _
                      rw [Nat.zero_add, List.nil_append] at hO1
                      refine hK _ _ (HCW.out _ xs1).1 ?_
                      try simp only [Act.put, List.setIfInBounds_toArray, List.set_cons_zero, List.set_cons_succ]
                      clear hK K
                      refine wpAnyJ_one (i := 11) (by simp only [List.getElem?_toArray, List.getElem?_cons_succ, List.getElem?_cons_zero, Option.some.injEq]; exact rfl) (by kernel_rfl) (fun K hK => ?_)
                      refine step_appq elemVer (by decide) rfl _ _ rfl hO1 rfl (A := A9) (n := vs.length - (j + 1)) rfl (news := cs.drop ((j + 1) * 4)) HL2.out (HN2.out _ xs1) HO2.out (by have := HBD.out; omega) xs1.size (w0 := wq) (Nat.le_refl _) xs1 ?_
                      intro v5 w5 hO2 xs2 _
                      obtain ⟨F5, hB5, ip5⟩ := HDR.out w5 v5 hO2 xs2 HXQ.out.size
                      obtain ⟨A5, c5, e5, _⟩ := hB5.sl.form
                      obtain ⟨n5, hn5⟩ : ∃ n, n = (vs.eraseIdx j).length := ⟨_, rfl⟩
                      rw [← hn5] at e5
                      subst e5
                      clear hO2 hO1 hn5
                      refine hK _ _ (HCW.out _ xs2).1 ?_
                      try simp only [Act.put, List.setIfInBounds_toArray, List.set_cons_zero, List.set_cons_succ]
                      clear hK K
                      refine wpAnyJ_one (i := 12) (by simp only [List.getElem?_toArray, List.getElem?_cons_succ, List.getElem?_cons_zero, Option.some.injEq]; exact rfl) (by kernel_rfl) (fun K hK => ?_)
                      go_simp
                      refine hK _ _ (HCW.out _ xs2).1 ?_
                      try simp only [Act.put, List.setIfInBounds_toArray, List.set_cons_zero, List.set_cons_succ]
                      clear hK K
                      have c9 := (HCW.out _ xs2).1
                      have f9 := (HCW.out _ xs2).2 2
                      refine wpAnyJ_last (by simp only [List.getElem?_toArray, List.getElem?_cons_succ, List.getElem?_cons_zero, Option.some.injEq]; exact rfl) (by kernel_rfl) (by kernel_rfl) (fun K hK => ?_)
                      go_simp
                      refine hK _ _ ?_
                      clear hK K c9 f9
                      have hF5 : F5 = [] := ver_noF hB5
                      subst hF5
                      obtain ⟨b9, hS9⟩ := HSQ.out.putV hB5 ip5.2.1 ip5.2.2.2.2
                      have x9 : Ext W3 (w5.setCell ⟨gx, 2, none⟩ (.slice A5 n5 c5)) := (HXQ.out.trans xs2).setCell HSQ.out.hb _
                      have HOC9 := hid (show (w5.setCell ⟨gx, 2, none⟩ (.slice A5 n5 c5)).cell? ⟨wr.heap.size, 0, none⟩ = some (.int .i64 b.ops[k].kind) ∧ OpCells (w5.setCell ⟨gx, 2, none⟩ (.slice A5 n5 c5)) wr.heap.size b.ops[k] (.slice A2 b.ops[k].record.fields.length cap2) from by
                        have h5 := HOC.out _ xs2
                        unfold OpCells
                        simp only [cell_setOther hgne2]
                        exact h5)
                      obtain ⟨W9, hW9⟩ : ∃ W9, W9 = w5.setCell ⟨gx, 2, none⟩ (.slice A5 n5 c5) := ⟨_, rfl⟩
                      rw [← hW9] at hS9 x9 HOC9 ⊢
                      clear hW9 b9 hB5 ip5 cw a1 a2 a3 a4 a5 a6 xs2 xs1 xz
                      have HS5 := hid hS9
                      have HX5 := hid x9
                      clear hS9 x9
                      go_wp2
                      go_roundw
                      case rel => exact ⟨k + 1, _, _, F, by omega, by go_num, by rw [HUR.out, HUV.out, HDN.out, HDV.out]; exact HS5.out, HX5.out⟩
                      case measure => simp [intOf]; omega
                  · have b4 : (b.ops[k].kind == 4) = false := by simp [h4]
                    have HK4 := hid (show dnV2 vs b.ops[k] = vs from dnV2_n h4)
                    clear h4
                    have hS8 := (hS17.ext x18)
                    have x8 := (x17w.trans x18)
                    have HB8 := hid (show ∀ W, Ext w18 W → W.cell? ⟨wr.heap.size, 0, none⟩ = some (.int .i64 b.ops[k].kind) ∧ OpCells W wr.heap.size b.ops[k] (.slice A2 b.ops[k].record.fields.length cap2) from fun W y => (HOB.out _ ((x17.trans x18).trans y)))
                    obtain ⟨⟨g0, g1, g2⟩, gf⟩ := hS8.cells
                    obtain ⟨_, _, k5, k6, k7, k8⟩ := HB8.out _ (Ext.refl _)
                    go_wp2_with fail
                    refine (spec_l28At (.slice Av vs.length cv) vs b.ops[k].verdict _ hS8.r.v.sl).mono ?_
                    rintro e w20 ⟨rfl, x20⟩
                    have HS5 := hid (hS8.ext x20)
                    have HX5 := hid (x8.trans x20)
                    obtain ⟨iv, hiv⟩ : ∃ i, i = idxV vs b.ops[k].verdict := ⟨_, rfl⟩
                    rw [← hiv]
                    clear hiv g0 g1 g2 gf k5 k6 k7 k8
                    have k0 := (HB8.out _ x20).1
                    clear hS8 x8
                    go_wp2
                    go_roundw
                    case rel => exact ⟨k + 1, _, _, F, by omega, by go_num, by rw [HUR.out, HUV.out, HDN.out, HK4.out]; exact HS5.out, HX5.out⟩
                    case measure => simp [intOf]; omega
              · have hkn : b.ops.take k = b.ops := List.take_of_length_le (by omega)
                rw [hkn] at hS
                clear hkn hk
                obtain ⟨⟨g0, g1, g2⟩, gf⟩ := hS.cells
                go_wp2_with fail
                refine (spec_IsValidStore _ ⟨s.version + 1, (b.ops.foldl dnR2 (b.ops.foldl upR2 s.records)), (b.ops.foldl dnV2 (b.ops.foldl upV2 s.verdicts))⟩ _ (hS.at_ HIV.out)).mono ?_
                rintro e w7 ⟨rfl, x7⟩
                have x67 := hx.trans x7
                have hS7 := hS.ext x7
                rw [show (⟨s.version + 1, (b.ops.foldl dnR2 (b.ops.foldl upR2 s.records)), (b.ops.foldl dnV2 (b.ops.foldl upV2 s.verdicts))⟩ : Store) = newSto2 s b from rfl, HN2.out]
                clear g0 g1 g2 gf hS hx x7 q0 q1
                cases hn : okSto (newSto s b) with
                | false =>
                  have HNO := hid (appB_no (s := s) (b := b) fun h => by rw [hn] at h; cases h.2.2)
                  clear hn hS7
                  obtain ⟨⟨p0, p1, p2⟩, _⟩ := HBX.out _ x67
                  go_wp2_with fail
                  refine (spec_l30Copy _ s _ (HAT.out _ x67) hms hmv).mono ?_
                  rintro e wc ⟨rv, vv, F, rfl, R, _, xc⟩
                  clear p0 p1 p2
                  have hbase : W3.heap.size ≤ w7.heap.size := x67.size
                  have R3 := R.low hbase
                  clear R
                  obtain ⟨Ar, cr, er, _⟩ := (R3).r.sl.form
                  subst er
                  obtain ⟨Av, cv, ev, _⟩ := (R3).v.sl.form
                  subst ev
                  have bz := HZ.out _ (x67.trans xc)
                  obtain ⟨⟨z0, z1, z2⟩, zf⟩ := (⟨⟨bz.cells.1 0, bz.cells.1 1, bz.cells.1 2⟩, bz.cells.2⟩ : (_ ∧ _ ∧ _) ∧ _)
                  have b9 := Blk.store3 bz (.int .i64 s.version) (.slice Ar (s.records).length cr) (.slice Av (s.verdicts).length cv)
                  have r0 := b9.cells.1 0
                  have r1 := b9.cells.1 1
                  have r2 := b9.cells.1 2
                  have HFIN := hid (show AppOut w (.returned (.tuple #[.agg #[.int .i64 s.version, .slice Ar (s.records).length cr, .slice Av (s.verdicts).length cv], .bool false])) (((wc.setCell ⟨w.heap.size + 1 + 1, 0, none⟩ (.int .i64 s.version)).setCell ⟨w.heap.size + 1 + 1, 1, none⟩ (.slice Ar (s.records).length cr)).setCell ⟨w.heap.size + 1 + 1, 2, none⟩ (.slice Av (s.verdicts).length cv)) (appB s b) from by
                    have hsz := HS.out
                    obtain ⟨n1, n2⟩ := (R3).r.below (g := w.heap.size + 1 + 1) (by omega)
                    obtain ⟨_, n3⟩ := (R3).v.below (g := w.heap.size + 1 + 1) (by omega)
                    rw [HNO.out]
                    exact ⟨_, _, _, rfl, ((R3).kp (Kp.store3 (w.heap.size + 1 + 1) 0 _ _ _ _) n1 n2 n3).low (by omega), by first | exact HI.out | exact HIV.out, Ext.store3 (HX.out.trans (x67.trans xc)) (by omega) _ _ _⟩)
                  clear b9 bz
                  go_wp2
                  refine bodyPost_ret (v := .tuple #[.agg #[.int .i64 s.version, .slice Ar (s.records).length cr, .slice Av (s.verdicts).length cv], .bool false]) (by simp [results, Tryz.results8, go_sem, r0, r1, r2]) rfl ?_
                  exact HFIN.out
                | true =>
                  have HNO := hid (show appB s b = (newSto2 s b, true) from by rw [appB_yes (s := s) (b := b) ⟨HSB.out.1, HSB.out.2, hn⟩, HN2.out])
                  clear hn
                  obtain ⟨⟨g0, g1, g2⟩, gf⟩ := hS7.cells
                  have R3 := hS7.r
                  have hbase := hS7.hb
                  obtain ⟨Ar, cr, er, _⟩ := (R3).r.sl.form
                  subst er
                  obtain ⟨Av, cv, ev, _⟩ := (R3).v.sl.form
                  subst ev
                  have bz := HZ.out _ (x67)
                  obtain ⟨⟨z0, z1, z2⟩, zf⟩ := (⟨⟨bz.cells.1 0, bz.cells.1 1, bz.cells.1 2⟩, bz.cells.2⟩ : (_ ∧ _ ∧ _) ∧ _)
                  have b9 := Blk.store3 bz (.int .i64 (s.version + 1)) (.slice Ar ((b.ops.foldl dnR2 (b.ops.foldl upR2 s.records))).length cr) (.slice Av ((b.ops.foldl dnV2 (b.ops.foldl upV2 s.verdicts))).length cv)
                  have r0 := b9.cells.1 0
                  have r1 := b9.cells.1 1
                  have r2 := b9.cells.1 2
                  have HFIN := hid (show AppOut w (.returned (.tuple #[.agg #[.int .i64 (s.version + 1), .slice Ar ((b.ops.foldl dnR2 (b.ops.foldl upR2 s.records))).length cr, .slice Av ((b.ops.foldl dnV2 (b.ops.foldl upV2 s.verdicts))).length cv], .bool true])) (((w7.setCell ⟨w.heap.size + 1 + 1, 0, none⟩ (.int .i64 (s.version + 1))).setCell ⟨w.heap.size + 1 + 1, 1, none⟩ (.slice Ar ((b.ops.foldl dnR2 (b.ops.foldl upR2 s.records))).length cr)).setCell ⟨w.heap.size + 1 + 1, 2, none⟩ (.slice Av ((b.ops.foldl dnV2 (b.ops.foldl upV2 s.verdicts))).length cv)) (appB s b) from by
                    have hsz := HS.out
                    obtain ⟨n1, n2⟩ := (R3).r.below (g := w.heap.size + 1 + 1) (by omega)
                    obtain ⟨_, n3⟩ := (R3).v.below (g := w.heap.size + 1 + 1) (by omega)
                    rw [HNO.out]
                    exact ⟨_, _, _, rfl, ((R3).kp (Kp.store3 (w.heap.size + 1 + 1) 0 _ _ _ _) n1 n2 n3).low (by omega), by first | exact HI.out | exact HIV.out, Ext.store3 (HX.out.trans (x67)) (by omega) _ _ _⟩)
                  clear b9 bz
                  go_wp2
                  refine bodyPost_ret (v := .tuple #[.agg #[.int .i64 (s.version + 1), .slice Ar ((b.ops.foldl dnR2 (b.ops.foldl upR2 s.records))).length cr, .slice Av ((b.ops.foldl dnV2 (b.ops.foldl upV2 s.verdicts))).length cv], .bool true]) (by simp [results, Tryz.results8, go_sem, r0, r1, r2]) rfl ?_
                  exact HFIN.out

end Go.Proofs.YtfcbapaojoecgaaGreat
