/-
  SEVERAL SMALL TEXTS LAID TOGETHER: VerS, PVl, Vers, VerEq, DrawK, PVo, Cur, IdxV, AppV, VerO, CurW, CloV, BinV, AppW, DelV, InsV.
-/
import Derived.Test.YtblggajfdhjmjaaDoorMgEndFnVer6
import Derived.Test.YtblggajfdhjmjaaDoorMgEndFnVer0
import Derived.Test.YtblggajfdhjmjaaDoorMgEndFnVer7
import Derived.Lib.IndexAny
import Derived.Test.YtblggajfdhjmjaaDoorMgEndFnVer5
import Derived.Laws.OwnMore
import Derived.Lib.SliceRun
import Derived.Deep.LoopGhost
import Derived.Deep.AppendLies
import Derived.Deep.RegionLaw
import Derived.Shelf.RegionOpenPlain
import Derived.Lib.Overlaps
import Derived.Lib.AppendZerosOnto
import Derived.Laws.Externs
import Derived.Laws.NewBlocks

namespace Go.Proofs.YtblggajfdhjmjaaDoor
open Go.RowKit
theorem infoVer : (Tryd.prog.info? 26).map (fun i => (i.zero, i.size, i.bytes)) = some (some (.agg #[.int .i64 0, .int .i64 0, .bool false, .int .i64 0]), 4, 32) := by kernel_rfl
def verZ : List Value := [.int .i64 0, .int .i64 0, .bool false, .int .i64 0]
end Go.Proofs.YtblggajfdhjmjaaDoor

namespace Go.Proofs.YtblggajfdhjmjaaDoor
open Go.RowKit

noncomputable def pV (s : ByteArray) : Verdict × Bool := ans okV fmtV ⟨0, 0, false, 0⟩ s
def sgn (b : Bool) : UInt8 := if b = true then 61 else 33
/-- the head of a verdict's text -/
def vHd (v : Verdict) : List UInt8 := Go.Lib.itoa v.a ++ sgn v.same :: Go.Lib.itoa v.b
theorem V_data {v : Verdict} (h : okV v = true) : (fmtV v).data.toList = Go.Lib.itoa v.a ++ sgn v.same :: (Go.Lib.itoa v.b ++ 64 :: Go.Lib.itoa v.time) := by
  unfold fmtV
  rw [if_pos h]
  simp only [app_data, itoaS_data]
  unfold sgn
  cases v.same <;> simp
theorem V_data2 {v : Verdict} (h : okV v = true) : (fmtV v).data.toList = vHd v ++ 64 :: Go.Lib.itoa v.time := by
  rw [V_data h]; unfold vHd; simp
theorem sgn_no (b : Bool) : isDg (sgn b) = false ∧ sgn b ≠ 45 ∧ sgn b ≠ 64 := by cases b <;> decide
theorem itoa_64 (n : Int) : (64 : UInt8) ∉ Go.Lib.itoa n := itoa_no 64 (by decide) (by decide) n
theorem itoa_61 (n : Int) : (61 : UInt8) ∉ Go.Lib.itoa n := itoa_no 61 (by decide) (by decide) n
theorem itoa_33 (n : Int) : (33 : UInt8) ∉ Go.Lib.itoa n := itoa_no 33 (by decide) (by decide) n
theorem itoa_sgn (b : Bool) (n : Int) : sgn b ∉ Go.Lib.itoa n := itoa_no _ (sgn_no b).1 (sgn_no b).2.1 n
theorem vHd_64 (v : Verdict) : (64 : UInt8) ∉ vHd v := by
  unfold vHd
  rw [List.mem_append, List.mem_cons]
  rintro (h | h | h)
  · exact itoa_64 _ h
  · exact (sgn_no v.same).2.2 h.symm
  · exact itoa_64 _ h
theorem V_cut {v : Verdict} {s : ByteArray} (h : okV v = true) (e : fmtV v = s) : pcs 64 s = [bs (vHd v), bs (Go.Lib.itoa v.time)] := by
  subst e
  unfold pcs
  rw [V_data2 h, cutL_hit (vHd_64 v), cutL_all (itoa_64 _)]; rfl
theorem V_cut2 (v : Verdict) (h : v.same = true) : pcs 61 (bs (vHd v)) = [bs (Go.Lib.itoa v.a), bs (Go.Lib.itoa v.b)] := by
  rw [pcs_bs]; unfold vHd sgn
  rw [if_pos h, cutL_hit (itoa_61 _), cutL_all (itoa_61 _)]; rfl
theorem V_cut3 (v : Verdict) (h : v.same = false) : (pcs 61 (bs (vHd v))).length = 1 ∧ pcs 33 (bs (vHd v)) = [bs (Go.Lib.itoa v.a), bs (Go.Lib.itoa v.b)] := by
  rw [pcs_bs, pcs_bs]; unfold vHd sgn
  rw [if_neg (by simp [h])]
  refine ⟨?_, by rw [cutL_hit (itoa_33 _), cutL_all (itoa_33 _)]; rfl⟩
  rw [cutL_all]
  · rfl
  · rw [List.mem_append, List.mem_cons]
    rintro (h | h | h)
    · exact itoa_61 _ h
    · exact absurd h (by decide)
    · exact itoa_61 _ h
theorem okV_r {v : Verdict} (h : okV v = true) : pI (bs (Go.Lib.itoa v.a)) = (v.a, true) ∧ pI (bs (Go.Lib.itoa v.b)) = (v.b, true) ∧ pI (bs (Go.Lib.itoa v.time)) = (v.time, true) := by
  obtain ⟨h1, h2, h3, h4⟩ := okV_bounds h
  exact ⟨pI_itoa (by omega), pI_itoa (by omega), pI_itoa (by omega)⟩

theorem pV_no1 {s : ByteArray} (h : ¬ (pcs 64 s).length = 2) : pV s = (⟨0, 0, false, 0⟩, false) :=
  ans_no fun x h1 h2 => h (by rw [V_cut h1 h2]; rfl)
theorem pV_no2 {s h0 h1 : ByteArray} (h : pcs 64 s = [h0, h1]) (k1 : ¬ (pcs 61 h0).length = 2) (k2 : ¬ (pcs 33 h0).length = 2) : pV s = (⟨0, 0, false, 0⟩, false) :=
  ans_no fun x h1 h2 => by
    have e := (V_cut h1 h2).symm.trans h
    injection e with e1 _
    cases hs : x.same
    · exact k2 (by rw [← e1, (V_cut3 x hs).2]; rfl)
    · exact k1 (by rw [← e1, V_cut2 x hs]; rfl)
theorem pV_A1 {s h0 h1 p0 p1 : ByteArray} (h : pcs 64 s = [h0, h1]) (k : pcs 61 h0 = [p0, p1]) : ∀ x, okV x = true → fmtV x = s → x = ⟨(pI p0).1, (pI p1).1, true, (pI h1).1⟩ := fun x h1 h2 => by
  have e := (V_cut h1 h2).symm.trans h
  injection e with e1 e2
  injection e2 with e2 _
  obtain ⟨r1, r2, r3⟩ := okV_r h1
  cases hs : x.same
  · exfalso
    have := (V_cut3 x hs).1
    rw [e1, k] at this; cases this
  · have q := (V_cut2 x hs).symm.trans (e1 ▸ k)
    injection q with q1 q2
    injection q2 with q2 _
    rw [← q1, ← q2, ← e2, r1, r2, r3, ← hs]
theorem pV_A2 {s h0 h1 p0 p1 : ByteArray} (h : pcs 64 s = [h0, h1]) (k1 : ¬ (pcs 61 h0).length = 2) (k : pcs 33 h0 = [p0, p1]) : ∀ x, okV x = true → fmtV x = s → x = ⟨(pI p0).1, (pI p1).1, false, (pI h1).1⟩ := fun x h1 h2 => by
  have e := (V_cut h1 h2).symm.trans h
  injection e with e1 e2
  injection e2 with e2 _
  obtain ⟨r1, r2, r3⟩ := okV_r h1
  cases hs : x.same
  · have q := (V_cut3 x hs).2.symm.trans (e1 ▸ k)
    injection q with q1 q2
    injection q2 with q2 _
    rw [← q1, ← q2, ← e2, r1, r2, r3, ← hs]
  · exact absurd (show (pcs 61 h0).length = 2 by rw [← e1, V_cut2 x hs]; rfl) k1
/-- the last test -/
theorem fmtV_ok {v : Verdict} {s : ByteArray} (h : fmtV v = s) (hs : s ≠ ⟨#[]⟩) : okV v = true := by
  cases hv : okV v with
  | true => rfl
  | false => exact absurd (by rw [← h, fmtV_none (by simp [hv])]) hs
/-- the program's road: the first sign, then the '@' -/
theorem V_idx {v : Verdict} {s : ByteArray} (h : okV v = true) (e : fmtV v = s) : Go.Lib.indexAny s.data.toList [61, 33] = ((Go.Lib.itoa v.a).length : Int) := by
  subst e
  rw [V_data h]
  refine Go.Lib.indexAny_hit (i := (Go.Lib.itoa v.a).length) (x := sgn v.same) ?_ (by simp) (by cases v.same <;> decide)
  intro j b hj hb
  rw [List.getElem?_append_left hj] at hb
  have hm := List.mem_of_getElem? hb
  cases hc : ([61, 33] : List UInt8).contains b with
  | false => rfl
  | true =>
    simp only [List.contains_cons, List.contains_nil, Bool.or_false, Bool.or_eq_true, beq_iff_eq] at hc
    rcases hc with rfl | rfl
    · exact absurd hm (itoa_61 _)
    · exact absurd hm (itoa_33 _)
theorem V_road {v : Verdict} {s : ByteArray} (h : okV v = true) (e : fmtV v = s) :
    s.data.toList.take (Go.Lib.itoa v.a).length = Go.Lib.itoa v.a ∧ s.data.toList[(Go.Lib.itoa v.a).length]? = some (sgn v.same) ∧ Go.Lib.cut (s.data.toList.drop ((Go.Lib.itoa v.a).length + 1)) [64] = (Go.Lib.itoa v.b, Go.Lib.itoa v.time, true) := by
  subst e
  rw [V_data h]
  refine ⟨by simp, by simp, ?_⟩
  have e1 : (Go.Lib.itoa v.a ++ sgn v.same :: (Go.Lib.itoa v.b ++ 64 :: Go.Lib.itoa v.time)).drop ((Go.Lib.itoa v.a).length + 1) = Go.Lib.itoa v.b ++ 64 :: Go.Lib.itoa v.time := by
    rw [← List.drop_drop, List.drop_left]; rfl
  rw [e1, libcut_hit (itoa_64 _)]
theorem pV_A3 {s : ByteArray} {i : Nat} {x : UInt8} (hi : ∀ v, okV v = true → fmtV v = s → (Go.Lib.itoa v.a).length = i) (hx : s.data.toList[i]? = some x) :
    ∀ v, okV v = true → fmtV v = s → v = ⟨(pI (bs (s.data.toList.take i))).1, (pI (bs (Go.Lib.cut (s.data.toList.drop (i + 1)) [64]).1)).1, x == 61, (pI (bs (Go.Lib.cut (s.data.toList.drop (i + 1)) [64]).2.1)).1⟩ ∧
      (pI (bs (s.data.toList.take i))).2 = true ∧ (pI (bs (Go.Lib.cut (s.data.toList.drop (i + 1)) [64]).1)).2 = true ∧ (pI (bs (Go.Lib.cut (s.data.toList.drop (i + 1)) [64]).2.1)).2 = true := fun v h1 h2 => by
  obtain ⟨t1, t2, t3⟩ := V_road h1 h2
  have hl := hi v h1 h2
  rw [hl] at t1 t2 t3
  obtain ⟨r1, r2, r3⟩ := okV_r h1
  have ex := Option.some.inj (hx.symm.trans t2)
  rw [t1, t3, r1, r2, r3, ex]
  refine ⟨?_, rfl, rfl, rfl⟩
  have es : (sgn v.same == 61) = v.same := by cases v.same <;> decide
  rw [es]
/-- the parser reads back what the formatter writes -/
theorem pV_hit {v : Verdict} (h : okV v = true) : pV (fmtV v) = (v, true) := by
  have hi : ∀ x, okV x = true → fmtV x = fmtV v → (Go.Lib.itoa x.a).length = (Go.Lib.itoa v.a).length := fun x h1 h2 => by
    have e1 := V_idx h1 h2
    have e2 := V_idx h rfl
    rw [e2] at e1; omega
  have hx : (fmtV v).data.toList[(Go.Lib.itoa v.a).length]? = some (sgn v.same) := (V_road h rfl).2.1
  have hr := (pV_A3 hi hx v h rfl).1
  exact ans_yes (c := v) (fun x h1 h2 => ((pV_A3 hi hx x h1 h2).1).trans hr.symm) h rfl
theorem pV_back (v : Verdict) : (pV (fmtV v)).2 = okV v ∧ (okV v = true → (pV (fmtV v)).1 = v) := by
  by_cases h : okV v = true
  · rw [pV_hit h, h]; exact ⟨rfl, fun _ => rfl⟩
  · have e : pV (fmtV v) = (⟨0, 0, false, 0⟩, false) := ans_no fun x h1 h2 => by
      have h3 := congrArg (fun s : ByteArray => s.data.toList.length) h2
      rw [fmtV_none h] at h3
      simp only [V_data h1] at h3
      simp at h3
    rw [e]
    exact ⟨by simpa using h, fun k => absurd k h⟩
end Go.Proofs.YtblggajfdhjmjaaDoor

namespace Go.Proofs.YtblggajfdhjmjaaDoor
open Go.RowKit

def vAt (xs : List Verdict) (k : Nat) : Verdict := xs.getD k ⟨0, 0, false, 0⟩
theorem vAt_at {xs : List Verdict} {k : Nat} (h : k < xs.length) : vAt xs k = xs[k] := by simp [vAt, List.getD, h]
def verAt (xs : List Verdict) (k : Nat) : Bool := okV (vAt xs k) && (k == 0 || decide (cmpV (vAt xs (k - 1)) (vAt xs k) < 0))
def areVers (xs : List Verdict) : Bool := (List.range xs.length).all (verAt xs) && decide (xs.length ≤ 8)
theorem vers_no {xs : List Verdict} {k : Nat} (hk : k < xs.length) (h : verAt xs k = false) : areVers xs = false := by
  unfold areVers
  rw [List.all_eq_false.2 ⟨k, List.mem_range.2 hk, by simp [h]⟩]; rfl
theorem vers_yes {xs : List Verdict} (h : ∀ j, j < xs.length → verAt xs j = true) : areVers xs = decide (xs.length ≤ 8) := by
  unfold areVers
  rw [List.all_eq_true.2 fun j hj => h j (List.mem_range.1 hj)]; rfl
theorem verAt_eq {xs : List Verdict} {k : Nat} (h : k < xs.length) : verAt xs k = (okV xs[k] && (k == 0 || decide (cmpV (vAt xs (k - 1)) xs[k] < 0))) := by
  unfold verAt; rw [vAt_at h]
theorem firstNZ_64 : ∀ l : List Int, (∀ x ∈ l, I64 x) → I64 (firstNZ l)
  | [], _ => by simp [firstNZ, I64]
  | x :: l, h => by
    rw [firstNZ]; split
    · exact h x (List.mem_cons_self ..)
    · exact firstNZ_64 l fun y hy => h y (List.mem_cons_of_mem _ hy)
theorem cmpV_64 (x y : Verdict) : I64 (cmpV x y) := firstNZ_64 _ (by simp [cmpI_64, cmpB_64])
theorem lt_succ_allV {p : Nat → Prop} {k : Nat} (h : ∀ j, j < k → p j) (hk : p k) : ∀ j, j < k + 1 → p j := fun j hj => by
  by_cases e : j = k
  · subst e; exact hk
  · exact h j (by omega)
theorem spec_valid (x : Verdict) (w : World) : Calls Tryd.prog 15 #[.agg #[.int .i64 x.a, .int .i64 x.b, .bool x.same, .int .i64 x.time]] w fun e w2 => e = .returned (.bool (okV x)) ∧ Ext w w2 := spec_IsValidVerdict _ _ _ _ w
theorem impl_valid (x : Verdict) (w : World) : Calls Tryd.prog 21 #[.agg #[.int .i64 x.a, .int .i64 x.b, .bool x.same, .int .i64 x.time]] w fun e w2 => e = .returned (.bool (okV x)) ∧ Ext w w2 := impl_IsValidVerdict _ _ _ _ w
theorem spec_cmp (x y : Verdict) (w : World) : Calls Tryd.prog 26 #[.agg #[.int .i64 x.a, .int .i64 x.b, .bool x.same, .int .i64 x.time], .agg #[.int .i64 y.a, .int .i64 y.b, .bool y.same, .int .i64 y.time]] w fun e w2 => e = .returned (.int .i64 (cmpV x y)) ∧ Ext w w2 := spec_CompareVerdicts x y w
theorem impl_cmp (x y : Verdict) (w : World) : Calls Tryd.prog 16 #[.agg #[.int .i64 x.a, .int .i64 x.b, .bool x.same, .int .i64 x.time], .agg #[.int .i64 y.a, .int .i64 y.b, .bool y.same, .int .i64 y.time]] w fun e w2 => e = .returned (.int .i64 (cmpV x y)) ∧ Ext w w2 := impl_CompareVerdicts x y w

set_option maxHeartbeats 400000 in
set_option maxRecDepth 20000 in
theorem spec_AreVerdicts (v : Value) (xs : List Verdict) (w : World) (h : Sl verdictR w v xs) :
    Calls Tryd.prog 9 #[v] w fun e w2 => e = .returned (.bool (areVers xs)) ∧ Ext w w2 := by
  obtain ⟨A, cap, rfl, hm⟩ := h.form
  go_enter Tryd.func9, Tryd.ntmps9
  go_wp2
  go_loopw [3] (fun i wr => ∃ k : Nat, k ≤ xs.length ∧ i = .int .i64 k ∧ (∀ q, q < k → verAt xs q = true) ∧ Ext w wr) (fun i _ => xs.length - (intOf i).toNat)
  case atStart => exact ⟨0, Nat.zero_le _, rfl, fun q hq => absurd hq (Nat.not_lt_zero _), Ext.refl _⟩
  case round =>
    obtain ⟨k, hk, rfl, hz, hx⟩ := hrel
    have HZ := hid hz
    clear hz
    by_cases hlt : k < xs.length
    · obtain ⟨b, off, rfl, hok, hc0, hc1, hc2, hc3⟩ := (h.mono hx).verdict hlt
      clear hok
      have HA := hid (verAt_eq hlt)
      have hz0 : ∀ z : ExtOf wr, z.1.cell? ⟨b, off + k * 4, none⟩ = _ := fun z => z.2.cell hc0
      have hz1 : ∀ z : ExtOf wr, z.1.cell? ⟨b, off + k * 4 + 1, none⟩ = _ := fun z => z.2.cell hc1
      have hz2 : ∀ z : ExtOf wr, z.1.cell? ⟨b, off + k * 4 + 2, none⟩ = _ := fun z => z.2.cell hc2
      have hz3 : ∀ z : ExtOf wr, z.1.cell? ⟨b, off + k * 4 + 3, none⟩ = _ := fun z => z.2.cell hc3
      cases hin : okV xs[k] with
      | false =>
        go_wp2_with fail
        refine wp_region_ext (by kernel_rfl) (by kernel_rfl) ?_
        repeat (go_big_quiet_step ((first | (go_at_call 15; exact quiet_ext (Calls.mono (spec_valid xs[k] _) fun _ _ h9 => ⟨h9.1.trans (ret_bool hin), h9.2⟩)))))
        refine wpQuiet_nil ?_
        rintro w4 ⟨⟨_, x4⟩, rfl⟩
        go_wp2
        go_ret
        exact ⟨ret_bool (vers_no hlt (by rw [HA.out, hin]; rfl)).symm, hx.trans x4⟩
      | true =>
        have HI := hid hin
        by_cases hj0 : 0 < k
        · have hlt1 : k - 1 < xs.length := by omega
          obtain ⟨b3, off3, e3, hok3, hd0, hd1, hd2, hd3⟩ := (h.mono hx).verdict hlt1
          cases e3
          clear hok3
          have hsub : ((k - 1 : Nat) : Int) = (k : Int) - 1 := by omega
          have hy0 : ∀ z : ExtOf wr, z.1.cell? ⟨b, off + (k - 1) * 4, none⟩ = _ := fun z => z.2.cell hd0
          have hy1 : ∀ z : ExtOf wr, z.1.cell? ⟨b, off + (k - 1) * 4 + 1, none⟩ = _ := fun z => z.2.cell hd1
          have hy2 : ∀ z : ExtOf wr, z.1.cell? ⟨b, off + (k - 1) * 4 + 2, none⟩ = _ := fun z => z.2.cell hd2
          have hy3 : ∀ z : ExtOf wr, z.1.cell? ⟨b, off + (k - 1) * 4 + 3, none⟩ = _ := fun z => z.2.cell hd3
          have HGD := hid (vAt_at hlt1)
          have h64 := (cmpV_64 xs[k - 1] xs[k]).out
          by_cases hge : 0 ≤ cmpV xs[k - 1] xs[k]
          · have HGE := hid (show decide (cmpV xs[k - 1] xs[k] < 0) = false by simpa using hge)
            go_wp2_with fail
            refine wp_region_ext (by kernel_rfl) (by kernel_rfl) ?_
            repeat (go_big_quiet_step ((first | (go_at_call 15; exact quiet_ext (Calls.mono (spec_valid xs[k] _) fun _ _ h9 => ⟨h9.1.trans (ret_bool hin), h9.2⟩)) | (go_at_call 26; exact quiet_ext (spec_cmp xs[k - 1] xs[k] _)))))
            refine wpQuiet_nil ?_
            rintro w4 ⟨⟨_, x4⟩, rfl⟩
            go_wp2
            go_ret
            exact ⟨ret_bool (vers_no hlt (by rw [HA.out, HGD.out, HGE.out, show (k == 0) = false by simp; omega]; simp)).symm, hx.trans x4⟩
          · have hlt9 : cmpV xs[k - 1] xs[k] < 0 := by omega
            have HGE := hid (show decide (cmpV xs[k - 1] xs[k] < 0) = true by simpa using hlt9)
            clear hge
            go_wp2_with fail
            refine wp_region_ext (by kernel_rfl) (by kernel_rfl) ?_
            repeat (go_big_quiet_step ((first | (go_at_call 15; exact quiet_ext (Calls.mono (spec_valid xs[k] _) fun _ _ h9 => ⟨h9.1.trans (ret_bool hin), h9.2⟩)) | (go_at_call 26; exact quiet_ext (spec_cmp xs[k - 1] xs[k] _)))))
            refine wpQuiet_nil ?_
            rintro w4 ⟨⟨_, x4⟩, rfl⟩
            go_wp2
            go_roundw
            case rel => exact ⟨k + 1, by omega, by go_num, lt_succ_allV HZ.out (by rw [HA.out, HI.out, HGD.out, HGE.out, Bool.or_true]; rfl), hx.trans x4⟩
            case measure => simp [intOf]; omega
        · have hjd1 : decide (0 < k) = false := by simpa using hj0
          have hjd2 : decide ((0 : Int) < (k : Int)) = false := by simp; omega
          have HJ0 := hid (show (k == 0) = true by simp; omega)
          clear hj0
          go_wp2_with fail
          refine wp_region_ext (by kernel_rfl) (by kernel_rfl) ?_
          repeat (go_big_quiet_step ((first | (go_at_call 15; exact quiet_ext (Calls.mono (spec_valid xs[k] _) fun _ _ h9 => ⟨h9.1.trans (ret_bool hin), h9.2⟩)))))
          refine wpQuiet_nil ?_
          rintro w4 ⟨⟨_, x4⟩, rfl⟩
          go_wp2
          go_roundw
          case rel => exact ⟨k + 1, by omega, by go_num, lt_succ_allV HZ.out (by rw [HA.out, HI.out, HJ0.out]; rfl), hx.trans x4⟩
          case measure => simp [intOf]; omega
    · go_wp2
      go_ret
      exact ⟨ret_bool (by rw [vers_yes fun j hj => HZ.out j (by omega)]; exact decide_eq_decide.2 (by omega)), hx⟩

set_option maxHeartbeats 400000 in
set_option maxRecDepth 20000 in
theorem impl_AreVerdicts (v : Value) (xs : List Verdict) (w : World) (h : Sl verdictR w v xs) :
    Calls Tryd.prog 8 #[v] w fun e w2 => e = .returned (.bool (areVers xs)) ∧ Ext w w2 := by
  obtain ⟨A, cap, rfl, hm⟩ := h.form
  go_enter Tryd.func8, Tryd.ntmps8
  go_wp2
  go_loopw [7] (fun i wr => ∃ k : Nat, k ≤ xs.length ∧ i = .int .i64 k ∧ (∀ q, q < k → verAt xs q = true) ∧ Ext w wr) (fun i _ => xs.length - (intOf i).toNat)
  case atStart => exact ⟨0, Nat.zero_le _, rfl, fun q hq => absurd hq (Nat.not_lt_zero _), Ext.refl _⟩
  case round =>
    obtain ⟨k, hk, rfl, hz, hx⟩ := hrel
    have HZ := hid hz
    clear hz
    by_cases hlt : k < xs.length
    · obtain ⟨b, off, rfl, hok, hc0, hc1, hc2, hc3⟩ := (h.mono hx).verdict hlt
      clear hok
      have HA := hid (verAt_eq hlt)
      have hzb : ∀ z : ExtOf (wr.alloc (.cells #[.int .i64 xs[k].a, .int .i64 xs[k].b, .bool xs[k].same, .int .i64 xs[k].time] 26)), z.1.cell? ⟨wr.heap.size, 0, none⟩ = some (.int .i64 xs[k].a) ∧ z.1.cell? ⟨wr.heap.size, 1, none⟩ = some (.int .i64 xs[k].b) ∧ z.1.cell? ⟨wr.heap.size, 2, none⟩ = some (.bool xs[k].same) ∧ z.1.cell? ⟨wr.heap.size, 3, none⟩ = some (.int .i64 xs[k].time) := fun z => ⟨z.2.box.1 0, z.2.box.1 1, z.2.box.1 2, z.2.box.1 3⟩
      cases hin : okV xs[k] with
      | false =>
        go_wp2_with fail
        refine wp_region_ext (by kernel_rfl) (by kernel_rfl) ?_
        repeat (go_big_quiet_step ((first | (go_at_call 21; exact quiet_ext (Calls.mono (impl_valid xs[k] _) fun _ _ h9 => ⟨h9.1.trans (ret_bool hin), h9.2⟩)))))
        refine wpQuiet_nil ?_
        rintro w4 ⟨⟨_, x4⟩, rfl⟩
        go_wp2
        go_ret
        exact ⟨ret_bool (vers_no hlt (by rw [HA.out, hin]; rfl)).symm, (by repeat (first | with_reducible exact Ext.refl _ | with_reducible assumption | with_reducible refine Ext.drew ?_ | with_reducible refine Ext.alloc ?_ _ | with_reducible refine Ext.trans ?_ (by with_reducible assumption)))⟩
      | true =>
        have HI := hid hin
        by_cases hj0 : 0 < k
        · have hlt1 : k - 1 < xs.length := by omega
          obtain ⟨b3, off3, e3, hok3, hd0, hd1, hd2, hd3⟩ := (h.mono hx).verdict hlt1
          cases e3
          clear hok3
          have hsub : ((k - 1 : Nat) : Int) = (k : Int) - 1 := by omega
          have hy0 : ∀ z : ExtOf (wr.alloc (.cells #[.int .i64 xs[k].a, .int .i64 xs[k].b, .bool xs[k].same, .int .i64 xs[k].time] 26)), z.1.cell? ⟨b, off + (k - 1) * 4, none⟩ = _ := fun z => (((Ext.refl _).alloc _).trans z.2).cell hd0
          have hy1 : ∀ z : ExtOf (wr.alloc (.cells #[.int .i64 xs[k].a, .int .i64 xs[k].b, .bool xs[k].same, .int .i64 xs[k].time] 26)), z.1.cell? ⟨b, off + (k - 1) * 4 + 1, none⟩ = _ := fun z => (((Ext.refl _).alloc _).trans z.2).cell hd1
          have hy2 : ∀ z : ExtOf (wr.alloc (.cells #[.int .i64 xs[k].a, .int .i64 xs[k].b, .bool xs[k].same, .int .i64 xs[k].time] 26)), z.1.cell? ⟨b, off + (k - 1) * 4 + 2, none⟩ = _ := fun z => (((Ext.refl _).alloc _).trans z.2).cell hd2
          have hy3 : ∀ z : ExtOf (wr.alloc (.cells #[.int .i64 xs[k].a, .int .i64 xs[k].b, .bool xs[k].same, .int .i64 xs[k].time] 26)), z.1.cell? ⟨b, off + (k - 1) * 4 + 3, none⟩ = _ := fun z => (((Ext.refl _).alloc _).trans z.2).cell hd3
          have HGD := hid (vAt_at hlt1)
          have h64 := (cmpV_64 xs[k - 1] xs[k]).out
          by_cases hge : 0 ≤ cmpV xs[k - 1] xs[k]
          · have HGE := hid (show decide (cmpV xs[k - 1] xs[k] < 0) = false by simpa using hge)
            go_wp2_with fail
            refine wp_region_ext (by kernel_rfl) (by kernel_rfl) ?_
            repeat (go_big_quiet_step ((first | (go_at_call 21; exact quiet_ext (Calls.mono (impl_valid xs[k] _) fun _ _ h9 => ⟨h9.1.trans (ret_bool hin), h9.2⟩)) | (go_at_call 16; exact quiet_ext (impl_cmp xs[k - 1] xs[k] _)))))
            refine wpQuiet_nil ?_
            rintro w4 ⟨⟨_, x4⟩, rfl⟩
            go_wp2
            go_ret
            exact ⟨ret_bool (vers_no hlt (by rw [HA.out, HGD.out, HGE.out, show (k == 0) = false by simp; omega]; simp)).symm, (by repeat (first | with_reducible exact Ext.refl _ | with_reducible assumption | with_reducible refine Ext.drew ?_ | with_reducible refine Ext.alloc ?_ _ | with_reducible refine Ext.trans ?_ (by with_reducible assumption)))⟩
          · have hlt9 : cmpV xs[k - 1] xs[k] < 0 := by omega
            have HGE := hid (show decide (cmpV xs[k - 1] xs[k] < 0) = true by simpa using hlt9)
            clear hge
            go_wp2_with fail
            refine wp_region_ext (by kernel_rfl) (by kernel_rfl) ?_
            repeat (go_big_quiet_step ((first | (go_at_call 21; exact quiet_ext (Calls.mono (impl_valid xs[k] _) fun _ _ h9 => ⟨h9.1.trans (ret_bool hin), h9.2⟩)) | (go_at_call 16; exact quiet_ext (impl_cmp xs[k - 1] xs[k] _)))))
            refine wpQuiet_nil ?_
            rintro w4 ⟨⟨_, x4⟩, rfl⟩
            go_wp2
            go_roundw
            case rel => exact ⟨k + 1, by omega, by go_num, lt_succ_allV HZ.out (by rw [HA.out, HI.out, HGD.out, HGE.out, Bool.or_true]; rfl), (by repeat (first | with_reducible exact Ext.refl _ | with_reducible assumption | with_reducible refine Ext.drew ?_ | with_reducible refine Ext.alloc ?_ _ | with_reducible refine Ext.trans ?_ (by with_reducible assumption)))⟩
            case measure => simp [intOf]; omega
        · have hjd1 : decide (0 < k) = false := by simpa using hj0
          have hjd2 : decide ((0 : Int) < (k : Int)) = false := by simp; omega
          have HJ0 := hid (show (k == 0) = true by simp; omega)
          clear hj0
          go_wp2_with fail
          refine wp_region_ext (by kernel_rfl) (by kernel_rfl) ?_
          repeat (go_big_quiet_step ((first | (go_at_call 21; exact quiet_ext (Calls.mono (impl_valid xs[k] _) fun _ _ h9 => ⟨h9.1.trans (ret_bool hin), h9.2⟩)))))
          refine wpQuiet_nil ?_
          rintro w4 ⟨⟨_, x4⟩, rfl⟩
          go_wp2
          go_roundw
          case rel => exact ⟨k + 1, by omega, by go_num, lt_succ_allV HZ.out (by rw [HA.out, HI.out, HJ0.out]; rfl), (by repeat (first | with_reducible exact Ext.refl _ | with_reducible assumption | with_reducible refine Ext.drew ?_ | with_reducible refine Ext.alloc ?_ _ | with_reducible refine Ext.trans ?_ (by with_reducible assumption)))⟩
          case measure => simp [intOf]; omega
    · go_wp2
      go_ret
      exact ⟨ret_bool (by rw [vers_yes fun j hj => HZ.out j (by omega)]; exact decide_eq_decide.2 (by omega)), hx⟩
end Go.Proofs.YtblggajfdhjmjaaDoor

namespace Go.Proofs.YtblggajfdhjmjaaDoor
open Go.RowKit

theorem ver_cases (x y : Verdict) : (x = y ∧ (x.a == y.a) = true ∧ (x.b == y.b) = true ∧ (x.same == y.same) = true ∧ (x.time == y.time) = true) ∨
    (¬ x = y ∧ ((x.a == y.a) = false ∨ ((x.a == y.a) = true ∧ (x.b == y.b) = false) ∨ ((x.a == y.a) = true ∧ (x.b == y.b) = true ∧ (x.same == y.same) = false) ∨ ((x.a == y.a) = true ∧ (x.b == y.b) = true ∧ (x.same == y.same) = true ∧ (x.time == y.time) = false))) := by
  by_cases h1 : x.a = y.a
  · by_cases h2 : x.b = y.b
    · by_cases h3 : x.same = y.same
      · by_cases h4 : x.time = y.time
        · exact .inl ⟨(Verdict.eta x y).2 ⟨h1, h2, h3, h4⟩, by simp [h1], by simp [h2], by simp [h3], by simp [h4]⟩
        · exact .inr ⟨fun e => h4 (by rw [e]), .inr (.inr (.inr ⟨by simp [h1], by simp [h2], by simp [h3], by simp [h4]⟩))⟩
      · exact .inr ⟨fun e => h3 (by rw [e]), .inr (.inr (.inl ⟨by simp [h1], by simp [h2], by simp [h3]⟩))⟩
    · exact .inr ⟨fun e => h2 (by rw [e]), .inr (.inl ⟨by simp [h1], by simp [h2]⟩)⟩
  · exact .inr ⟨fun e => h1 (by rw [e]), .inl (by simp [h1])⟩

end Go.Proofs.YtblggajfdhjmjaaDoor

namespace Go.Proofs.YtblggajfdhjmjaaDoor
open Go.RowKit

theorem Kept.alloc {g : Nat} {w w2 : World} (h : Kept g w w2) (o : Obj) : Kept g w (w2.alloc o) := h.trans (Ext.kept ((Ext.refl _).alloc _))
theorem Kept.drew {g : Nat} {w w2 : World} (h : Kept g w w2) : Kept g w w2.drew := h.trans (Ext.kept (Ext.refl _).drew)
theorem Kept.setN {g : Nat} {w w2 : World} (h : Kept g w w2) {p : Addr} (hp : w.heap.size ≤ p.block) (u : Value) : Kept g w (w2.setCell p u) :=
  ⟨by rw [World.size_setCell]; exact h.1, fun b hb hne => (keep_setCell (fun e => by omega)).trans (h.2 b hb hne)⟩
theorem Cur.setN {w0 w : World} {g : Nat} (h : Cur w0 w g) {p : Addr} (hp : g < p.block) (u : Value) : Cur w0 (w.setCell p u) g :=
  h.keep (h.base.1.setCell (by have := h.base.2.1; omega) u) (keep_setCell (by omega))
theorem Blk.kept {w w2 : World} {b g : Nat} {e : TypeId} {cs : List Value} (h : Blk w b e cs) (hne : b ≠ g) (k : Kept g w w2) : Blk w2 b e cs := h.keep (k.2 b (block_lt h) hne)
theorem Cur.alloc {w0 w : World} {g : Nat} (h : Cur w0 w g) (o : Obj) : Cur w0 (w.alloc o) g := h.ext ((Ext.refl w).alloc o)
theorem Cur.drew {w0 w : World} {g : Nat} (h : Cur w0 w g) : Cur w0 w.drew g := h.ext (Ext.refl w).drew
/-- a verdict that was drawn -/
def VerDrawn (w0 w : World) (g : Nat) (e : Ending) (w2 : World) : Prop := ∃ v : Verdict, e = .returned (.agg #[.int .i64 v.a, .int .i64 v.b, .bool v.same, .int .i64 v.time]) ∧ v.ok ∧ Cur w0 w2 g ∧ Kept g w w2

set_option maxHeartbeats 400000 in
theorem spec_l28Member (w0 w : World) (g : Nat) (hc : Cur w0 w g) :
    Calls Tryd.prog 65 #[.pointer (some ⟨g, 0, none⟩)] w fun e w2 => ∃ x, e = .returned (.int .i64 x) ∧ (0 ≤ x ∧ x ≤ 400) ∧ Cur w0 w2 g ∧ Kept g w w2 := by
  go_enter Tryd.func65, Tryd.ntmps65
  go_wp2_with fail
  refine (spec_l1Below w0 _ g 3 (by decide) hc).mono ?_
  rintro e w2 ⟨x1, rfl, hx1, hc2, hk2⟩
  have hg2 := hc2.base.2.2
  go_wp2_with fail
  refine (spec_l1Below w0 _ g 2 (by decide) hc2).mono ?_
  rintro e w3 ⟨x2, rfl, hx2, hc3, hk3⟩
  have hg3 := hc3.base.2.2
  go_wp2
  go_ret
  exact ⟨_, rfl, by omega, hc3, hk2.trans hk3⟩

set_option maxHeartbeats 400000 in
set_option maxRecDepth 20000 in
theorem spec_l28Verdict (w0 w : World) (g : Nat) (hc : Cur w0 w g) :
    Calls Tryd.prog 54 #[.pointer (some ⟨g, 0, none⟩)] w (VerDrawn w0 w g) := by
  have hg := hc.base.2.2
  have hc0 := hc.ext ((Ext.refl w).alloc (.cells #[.int .i64 0, .int .i64 0, .bool false, .int .i64 0] 26))
  have k0 := Ext.kept (g := g) ((Ext.refl w).alloc (.cells #[.int .i64 0, .int .i64 0, .bool false, .int .i64 0] 26))
  have b0 := Blk.new w 26 #[.int .i64 0, .int .i64 0, .bool false, .int .i64 0]
  go_enter Tryd.func54, Tryd.ntmps54
  go_wp2_with fail
  refine (spec_l28Member w0 _ g hc0).mono ?_
  rintro e w2 ⟨a, rfl, ha, hc2, hk2⟩
  have hg2 := hc2.base.2.2
  go_wp2_with fail
  refine (spec_l28Member w0 _ g hc2).mono ?_
  rintro e w3 ⟨b, rfl, hb, hc3, hk3⟩
  have hg3 := hc3.base.2.2
  have hk23 := hk2.trans hk3
  clear hk2 hk3
  rcases Int.lt_trichotomy a b with h | h | h
  · have hm1 : min a b = a := by omega
    have hm2 : max a b = b := by omega
    go_wp2_with fail
    refine (spec_l1Once w0 _ g 3 (by decide) hc3).mono ?_
    rintro e w4 ⟨s, rfl, hc4, hk4⟩
    have hg4 := hc4.base.2.2
    go_wp2_with fail
    refine (spec_l1Below w0 _ g 6 (by decide) hc4).mono ?_
    rintro e w5 ⟨x4, rfl, hx4, hc5, hk5⟩
    have hg5 := hc5.base.2.2
    have hk35 := hk4.trans hk5
    have hk := k0.trans (hk23.trans hk35)
    have bR := b0.kept (Nat.ne_of_gt hg) (hk23.trans hk35)
    have HI := hid (show Verdict.ok ⟨a, b, !s, 1 + x4⟩ from ⟨by simp only [I64]; omega, by simp only [I64]; omega, by simp only [I64]; omega⟩)
    clear hc hc0 k0 b0 hc2 hc3 hc4 hk23 hk4 hk5 hk35 hg2 hg3 hg4
    obtain ⟨cR, fR⟩ := bR.cells
    go_wp2
    have b9 : Blk ((((w5.setCell ⟨w.heap.size, 0, none⟩ (.int .i64 (a))).setCell ⟨w.heap.size, 1, none⟩ (.int .i64 (b))).setCell ⟨w.heap.size, 2, none⟩ (.bool (!s))).setCell ⟨w.heap.size, 3, none⟩ (.int .i64 (1 + x4))) w.heap.size 26 [.int .i64 (a), .int .i64 (b), .bool (!s), .int .i64 (1 + x4)] := ((((bR.setAt 0 (by show 0 < 4; decide) (.int .i64 (a))).setAt 1 (by show 1 < 4; decide) (.int .i64 (b))).setAt 2 (by show 2 < 4; decide) (.bool (!s))).setAt 3 (by show 3 < 4; decide) (.int .i64 (1 + x4)))
    have r0 : ((((w5.setCell ⟨w.heap.size, 0, none⟩ (.int .i64 (a))).setCell ⟨w.heap.size, 1, none⟩ (.int .i64 (b))).setCell ⟨w.heap.size, 2, none⟩ (.bool (!s))).setCell ⟨w.heap.size, 3, none⟩ (.int .i64 (1 + x4))).cell? ⟨w.heap.size, 0, none⟩ = some (.int .i64 (a)) := b9.cells.1 0
    have r1 : ((((w5.setCell ⟨w.heap.size, 0, none⟩ (.int .i64 (a))).setCell ⟨w.heap.size, 1, none⟩ (.int .i64 (b))).setCell ⟨w.heap.size, 2, none⟩ (.bool (!s))).setCell ⟨w.heap.size, 3, none⟩ (.int .i64 (1 + x4))).cell? ⟨w.heap.size, 1, none⟩ = some (.int .i64 (b)) := b9.cells.1 1
    have r2 : ((((w5.setCell ⟨w.heap.size, 0, none⟩ (.int .i64 (a))).setCell ⟨w.heap.size, 1, none⟩ (.int .i64 (b))).setCell ⟨w.heap.size, 2, none⟩ (.bool (!s))).setCell ⟨w.heap.size, 3, none⟩ (.int .i64 (1 + x4))).cell? ⟨w.heap.size, 2, none⟩ = some (.bool (!s)) := b9.cells.1 2
    have r3 : ((((w5.setCell ⟨w.heap.size, 0, none⟩ (.int .i64 (a))).setCell ⟨w.heap.size, 1, none⟩ (.int .i64 (b))).setCell ⟨w.heap.size, 2, none⟩ (.bool (!s))).setCell ⟨w.heap.size, 3, none⟩ (.int .i64 (1 + x4))).cell? ⟨w.heap.size, 3, none⟩ = some (.int .i64 (1 + x4)) := b9.cells.1 3
    have k9 : Kept g w ((((w5.setCell ⟨w.heap.size, 0, none⟩ (.int .i64 (a))).setCell ⟨w.heap.size, 1, none⟩ (.int .i64 (b))).setCell ⟨w.heap.size, 2, none⟩ (.bool (!s))).setCell ⟨w.heap.size, 3, none⟩ (.int .i64 (1 + x4))) := ((((hk.setN (Nat.le_refl _) _).setN (Nat.le_refl _) _).setN (Nat.le_refl _) _).setN (Nat.le_refl _) _)
    have c9 : Cur w0 ((((w5.setCell ⟨w.heap.size, 0, none⟩ (.int .i64 (a))).setCell ⟨w.heap.size, 1, none⟩ (.int .i64 (b))).setCell ⟨w.heap.size, 2, none⟩ (.bool (!s))).setCell ⟨w.heap.size, 3, none⟩ (.int .i64 (1 + x4))) g := ((((hc5.setN hg _).setN hg _).setN hg _).setN hg _)
    refine bodyPost_ret (v := .agg #[.int .i64 (a), .int .i64 (b), .bool (!s), .int .i64 (1 + x4)]) (by simp [results, Tryd.results54, go_sem, r0, r1, r2, r3]) rfl ?_
    exact ⟨⟨a, b, !s, 1 + x4⟩, rfl, HI.out, c9, k9⟩
  · subst h
    have hm1 : min a (a + 1) = a := by omega
    have hm2 : max a (a + 1) = a + 1 := by omega
    go_wp2_with fail
    refine (spec_l1Once w0 _ g 3 (by decide) hc3).mono ?_
    rintro e w4 ⟨s, rfl, hc4, hk4⟩
    have hg4 := hc4.base.2.2
    go_wp2_with fail
    refine (spec_l1Below w0 _ g 6 (by decide) hc4).mono ?_
    rintro e w5 ⟨x4, rfl, hx4, hc5, hk5⟩
    have hg5 := hc5.base.2.2
    have hk35 := hk4.trans hk5
    have hk := k0.trans (hk23.trans hk35)
    have bR := b0.kept (Nat.ne_of_gt hg) (hk23.trans hk35)
    have HI := hid (show Verdict.ok ⟨a, a + 1, !s, 1 + x4⟩ from ⟨by simp only [I64]; omega, by simp only [I64]; omega, by simp only [I64]; omega⟩)
    clear hc hc0 k0 b0 hc2 hc3 hc4 hk23 hk4 hk5 hk35 hg2 hg3 hg4
    obtain ⟨cR, fR⟩ := bR.cells
    go_wp2
    have b9 : Blk ((((w5.setCell ⟨w.heap.size, 0, none⟩ (.int .i64 (a))).setCell ⟨w.heap.size, 1, none⟩ (.int .i64 (a + 1))).setCell ⟨w.heap.size, 2, none⟩ (.bool (!s))).setCell ⟨w.heap.size, 3, none⟩ (.int .i64 (1 + x4))) w.heap.size 26 [.int .i64 (a), .int .i64 (a + 1), .bool (!s), .int .i64 (1 + x4)] := ((((bR.setAt 0 (by show 0 < 4; decide) (.int .i64 (a))).setAt 1 (by show 1 < 4; decide) (.int .i64 (a + 1))).setAt 2 (by show 2 < 4; decide) (.bool (!s))).setAt 3 (by show 3 < 4; decide) (.int .i64 (1 + x4)))
    have r0 : ((((w5.setCell ⟨w.heap.size, 0, none⟩ (.int .i64 (a))).setCell ⟨w.heap.size, 1, none⟩ (.int .i64 (a + 1))).setCell ⟨w.heap.size, 2, none⟩ (.bool (!s))).setCell ⟨w.heap.size, 3, none⟩ (.int .i64 (1 + x4))).cell? ⟨w.heap.size, 0, none⟩ = some (.int .i64 (a)) := b9.cells.1 0
    have r1 : ((((w5.setCell ⟨w.heap.size, 0, none⟩ (.int .i64 (a))).setCell ⟨w.heap.size, 1, none⟩ (.int .i64 (a + 1))).setCell ⟨w.heap.size, 2, none⟩ (.bool (!s))).setCell ⟨w.heap.size, 3, none⟩ (.int .i64 (1 + x4))).cell? ⟨w.heap.size, 1, none⟩ = some (.int .i64 (a + 1)) := b9.cells.1 1
    have r2 : ((((w5.setCell ⟨w.heap.size, 0, none⟩ (.int .i64 (a))).setCell ⟨w.heap.size, 1, none⟩ (.int .i64 (a + 1))).setCell ⟨w.heap.size, 2, none⟩ (.bool (!s))).setCell ⟨w.heap.size, 3, none⟩ (.int .i64 (1 + x4))).cell? ⟨w.heap.size, 2, none⟩ = some (.bool (!s)) := b9.cells.1 2
    have r3 : ((((w5.setCell ⟨w.heap.size, 0, none⟩ (.int .i64 (a))).setCell ⟨w.heap.size, 1, none⟩ (.int .i64 (a + 1))).setCell ⟨w.heap.size, 2, none⟩ (.bool (!s))).setCell ⟨w.heap.size, 3, none⟩ (.int .i64 (1 + x4))).cell? ⟨w.heap.size, 3, none⟩ = some (.int .i64 (1 + x4)) := b9.cells.1 3
    have k9 : Kept g w ((((w5.setCell ⟨w.heap.size, 0, none⟩ (.int .i64 (a))).setCell ⟨w.heap.size, 1, none⟩ (.int .i64 (a + 1))).setCell ⟨w.heap.size, 2, none⟩ (.bool (!s))).setCell ⟨w.heap.size, 3, none⟩ (.int .i64 (1 + x4))) := ((((hk.setN (Nat.le_refl _) _).setN (Nat.le_refl _) _).setN (Nat.le_refl _) _).setN (Nat.le_refl _) _)
    have c9 : Cur w0 ((((w5.setCell ⟨w.heap.size, 0, none⟩ (.int .i64 (a))).setCell ⟨w.heap.size, 1, none⟩ (.int .i64 (a + 1))).setCell ⟨w.heap.size, 2, none⟩ (.bool (!s))).setCell ⟨w.heap.size, 3, none⟩ (.int .i64 (1 + x4))) g := ((((hc5.setN hg _).setN hg _).setN hg _).setN hg _)
    refine bodyPost_ret (v := .agg #[.int .i64 (a), .int .i64 (a + 1), .bool (!s), .int .i64 (1 + x4)]) (by simp [results, Tryd.results54, go_sem, r0, r1, r2, r3]) rfl ?_
    exact ⟨⟨a, a + 1, !s, 1 + x4⟩, rfl, HI.out, c9, k9⟩
  · have hm1 : min a b = b := by omega
    have hm2 : max a b = a := by omega
    go_wp2_with fail
    refine (spec_l1Once w0 _ g 3 (by decide) hc3).mono ?_
    rintro e w4 ⟨s, rfl, hc4, hk4⟩
    have hg4 := hc4.base.2.2
    go_wp2_with fail
    refine (spec_l1Below w0 _ g 6 (by decide) hc4).mono ?_
    rintro e w5 ⟨x4, rfl, hx4, hc5, hk5⟩
    have hg5 := hc5.base.2.2
    have hk35 := hk4.trans hk5
    have hk := k0.trans (hk23.trans hk35)
    have bR := b0.kept (Nat.ne_of_gt hg) (hk23.trans hk35)
    have HI := hid (show Verdict.ok ⟨b, a, !s, 1 + x4⟩ from ⟨by simp only [I64]; omega, by simp only [I64]; omega, by simp only [I64]; omega⟩)
    clear hc hc0 k0 b0 hc2 hc3 hc4 hk23 hk4 hk5 hk35 hg2 hg3 hg4
    obtain ⟨cR, fR⟩ := bR.cells
    go_wp2
    have b9 : Blk ((((w5.setCell ⟨w.heap.size, 0, none⟩ (.int .i64 (b))).setCell ⟨w.heap.size, 1, none⟩ (.int .i64 (a))).setCell ⟨w.heap.size, 2, none⟩ (.bool (!s))).setCell ⟨w.heap.size, 3, none⟩ (.int .i64 (1 + x4))) w.heap.size 26 [.int .i64 (b), .int .i64 (a), .bool (!s), .int .i64 (1 + x4)] := ((((bR.setAt 0 (by show 0 < 4; decide) (.int .i64 (b))).setAt 1 (by show 1 < 4; decide) (.int .i64 (a))).setAt 2 (by show 2 < 4; decide) (.bool (!s))).setAt 3 (by show 3 < 4; decide) (.int .i64 (1 + x4)))
    have r0 : ((((w5.setCell ⟨w.heap.size, 0, none⟩ (.int .i64 (b))).setCell ⟨w.heap.size, 1, none⟩ (.int .i64 (a))).setCell ⟨w.heap.size, 2, none⟩ (.bool (!s))).setCell ⟨w.heap.size, 3, none⟩ (.int .i64 (1 + x4))).cell? ⟨w.heap.size, 0, none⟩ = some (.int .i64 (b)) := b9.cells.1 0
    have r1 : ((((w5.setCell ⟨w.heap.size, 0, none⟩ (.int .i64 (b))).setCell ⟨w.heap.size, 1, none⟩ (.int .i64 (a))).setCell ⟨w.heap.size, 2, none⟩ (.bool (!s))).setCell ⟨w.heap.size, 3, none⟩ (.int .i64 (1 + x4))).cell? ⟨w.heap.size, 1, none⟩ = some (.int .i64 (a)) := b9.cells.1 1
    have r2 : ((((w5.setCell ⟨w.heap.size, 0, none⟩ (.int .i64 (b))).setCell ⟨w.heap.size, 1, none⟩ (.int .i64 (a))).setCell ⟨w.heap.size, 2, none⟩ (.bool (!s))).setCell ⟨w.heap.size, 3, none⟩ (.int .i64 (1 + x4))).cell? ⟨w.heap.size, 2, none⟩ = some (.bool (!s)) := b9.cells.1 2
    have r3 : ((((w5.setCell ⟨w.heap.size, 0, none⟩ (.int .i64 (b))).setCell ⟨w.heap.size, 1, none⟩ (.int .i64 (a))).setCell ⟨w.heap.size, 2, none⟩ (.bool (!s))).setCell ⟨w.heap.size, 3, none⟩ (.int .i64 (1 + x4))).cell? ⟨w.heap.size, 3, none⟩ = some (.int .i64 (1 + x4)) := b9.cells.1 3
    have k9 : Kept g w ((((w5.setCell ⟨w.heap.size, 0, none⟩ (.int .i64 (b))).setCell ⟨w.heap.size, 1, none⟩ (.int .i64 (a))).setCell ⟨w.heap.size, 2, none⟩ (.bool (!s))).setCell ⟨w.heap.size, 3, none⟩ (.int .i64 (1 + x4))) := ((((hk.setN (Nat.le_refl _) _).setN (Nat.le_refl _) _).setN (Nat.le_refl _) _).setN (Nat.le_refl _) _)
    have c9 : Cur w0 ((((w5.setCell ⟨w.heap.size, 0, none⟩ (.int .i64 (b))).setCell ⟨w.heap.size, 1, none⟩ (.int .i64 (a))).setCell ⟨w.heap.size, 2, none⟩ (.bool (!s))).setCell ⟨w.heap.size, 3, none⟩ (.int .i64 (1 + x4))) g := ((((hc5.setN hg _).setN hg _).setN hg _).setN hg _)
    refine bodyPost_ret (v := .agg #[.int .i64 (b), .int .i64 (a), .bool (!s), .int .i64 (1 + x4)]) (by simp [results, Tryd.results54, go_sem, r0, r1, r2, r3]) rfl ?_
    exact ⟨⟨b, a, !s, 1 + x4⟩, rfl, HI.out, c9, k9⟩

set_option maxHeartbeats 1000000 in
set_option maxRecDepth 20000 in
theorem spec_l28Any (w0 w : World) (g : Nat) (hc : Cur w0 w g) :
    Calls Tryd.prog 39 #[.pointer (some ⟨g, 0, none⟩)] w (VerDrawn w0 w g) := by
  have hg := hc.base.2.2
  have hc0 := hc.ext ((Ext.refl w).alloc (.cells #[.int .i64 0, .int .i64 0, .bool false, .int .i64 0] 26))
  have k0 := Ext.kept (g := g) ((Ext.refl w).alloc (.cells #[.int .i64 0, .int .i64 0, .bool false, .int .i64 0] 26))
  have b0 := Blk.new w 26 #[.int .i64 0, .int .i64 0, .bool false, .int .i64 0]
  go_enter Tryd.func39, Tryd.ntmps39
  go_wp2_with fail
  refine (spec_l28Verdict w0 _ g hc0).mono ?_
  rintro e w2 ⟨v, rfl, vok, hc2, hk2⟩
  have hgL := hc2.base.2.2
  have hk02 := k0.trans hk2
  have hwL := hk02.1
  have hnLR : ¬ w2.heap.size = w.heap.size := by have := block_lt (b0.kept (Nat.ne_of_gt hg) hk2); omega
  have hnRL : ¬ w.heap.size = w2.heap.size := fun e => hnLR e.symm
  have bL2 := Blk.new w2 26 #[.int .i64 v.a, .int .i64 v.b, .bool v.same, .int .i64 v.time]
  have bR2 := (b0.kept (Nat.ne_of_gt hg) hk2).ext ((Ext.refl w2).alloc (.cells #[.int .i64 v.a, .int .i64 v.b, .bool v.same, .int .i64 v.time] 26))
  have hc2a := hc2.ext ((Ext.refl w2).alloc (.cells #[.int .i64 v.a, .int .i64 v.b, .bool v.same, .int .i64 v.time] 26))
  have hk2a := hk02.alloc (.cells #[.int .i64 v.a, .int .i64 v.b, .bool v.same, .int .i64 v.time] 26)
  clear hc hc0 k0 b0 hc2 hk2 hk02
  go_wp2_with fail
  refine (spec_l1Below w0 _ g 14 (by decide) hc2a).mono ?_
  rintro e w3 ⟨x, rfl, hx, hc3, hk3⟩
  have hg3 := hc3.base.2.2
  have bL3 := bL2.kept (Nat.ne_of_gt hgL) hk3
  have bR3 := bR2.kept (Nat.ne_of_gt hg) hk3
  have hk03 := hk2a.trans hk3
  clear bL2 bR2 hc2a hk2a hk3
  obtain ⟨va, vb, vt⟩ := id vok
  by_cases h0 : x = 0
  · subst h0
    obtain ⟨cL3, _⟩ := bL3.cells
    go_wp2_with fail
    refine (spec_l1PickInt w0 _ g _ [0, 399, v.b] (by show 1 ≤ 3 ∧ 3 ≤ 256; decide) (hc3.ext ((Ext.refl _).alloc _)) (fun w4 k4 => (lit_kept rfl (by intro q hq; simp only [List.mem_cons, List.not_mem_nil, or_false] at hq; rcases hq with rfl | rfl | rfl; (exact ⟨by decide, by decide⟩); (exact ⟨by decide, by decide⟩); exact vb) (by show 3 ≤ maxLen; decide) hg3 k4).sl)).mono ?_
    rintro e w4 ⟨y, rfl, hy, hc4, hk4⟩
    replace hk4 := (Ext.kept (g := g) ((Ext.refl _).alloc _)).trans hk4
    have hg4 := hc4.base.2.2
    have bLn := bL3.kept (Nat.ne_of_gt hgL) hk4
    have bRn := bR3.kept (Nat.ne_of_gt hg) hk4
    have hkn := hk03.trans hk4
    clear hk4 hg4 hc3 bL3 bR3 hk03
    have bL9 : Blk (w4.setCell ⟨w2.heap.size, 0, none⟩ (.int .i64 y)) w2.heap.size 26 [.int .i64 y, .int .i64 v.b, .bool v.same, .int .i64 v.time] := (bLn.setAt 0 (by show 0 < 4; decide) (.int .i64 y))
    have bR9 := (bRn.other (i := 0) (u := .int .i64 y) hnRL)
    have kL9 : Kept g w (w4.setCell ⟨w2.heap.size, 0, none⟩ (.int .i64 y)) := (hkn.setN hwL _)
    have cL9 : Cur w0 (w4.setCell ⟨w2.heap.size, 0, none⟩ (.int .i64 y)) g := (hc4.setN hgL _)
    have HI := hid (show Verdict.ok ⟨y, v.b, v.same, v.time⟩ from ⟨hy, vb, vt⟩)
    obtain ⟨cL0, fL0⟩ := bLn.cells
    obtain ⟨cL, fL⟩ := bL9.cells
    obtain ⟨cR, fR⟩ := bR9.cells
    go_wp2
    have b9 : Blk (((((w4.setCell ⟨w2.heap.size, 0, none⟩ (.int .i64 y)).setCell ⟨w.heap.size, 0, none⟩ (.int .i64 y)).setCell ⟨w.heap.size, 1, none⟩ (.int .i64 v.b)).setCell ⟨w.heap.size, 2, none⟩ (.bool v.same)).setCell ⟨w.heap.size, 3, none⟩ (.int .i64 v.time)) w.heap.size 26 [.int .i64 y, .int .i64 v.b, .bool v.same, .int .i64 v.time] := ((((bR9.setAt 0 (by show 0 < 4; decide) (.int .i64 y)).setAt 1 (by show 1 < 4; decide) (.int .i64 v.b)).setAt 2 (by show 2 < 4; decide) (.bool v.same)).setAt 3 (by show 3 < 4; decide) (.int .i64 v.time))
    have r0 : (((((w4.setCell ⟨w2.heap.size, 0, none⟩ (.int .i64 y)).setCell ⟨w.heap.size, 0, none⟩ (.int .i64 y)).setCell ⟨w.heap.size, 1, none⟩ (.int .i64 v.b)).setCell ⟨w.heap.size, 2, none⟩ (.bool v.same)).setCell ⟨w.heap.size, 3, none⟩ (.int .i64 v.time)).cell? ⟨w.heap.size, 0, none⟩ = some (.int .i64 y) := b9.cells.1 0
    have r1 : (((((w4.setCell ⟨w2.heap.size, 0, none⟩ (.int .i64 y)).setCell ⟨w.heap.size, 0, none⟩ (.int .i64 y)).setCell ⟨w.heap.size, 1, none⟩ (.int .i64 v.b)).setCell ⟨w.heap.size, 2, none⟩ (.bool v.same)).setCell ⟨w.heap.size, 3, none⟩ (.int .i64 v.time)).cell? ⟨w.heap.size, 1, none⟩ = some (.int .i64 v.b) := b9.cells.1 1
    have r2 : (((((w4.setCell ⟨w2.heap.size, 0, none⟩ (.int .i64 y)).setCell ⟨w.heap.size, 0, none⟩ (.int .i64 y)).setCell ⟨w.heap.size, 1, none⟩ (.int .i64 v.b)).setCell ⟨w.heap.size, 2, none⟩ (.bool v.same)).setCell ⟨w.heap.size, 3, none⟩ (.int .i64 v.time)).cell? ⟨w.heap.size, 2, none⟩ = some (.bool v.same) := b9.cells.1 2
    have r3 : (((((w4.setCell ⟨w2.heap.size, 0, none⟩ (.int .i64 y)).setCell ⟨w.heap.size, 0, none⟩ (.int .i64 y)).setCell ⟨w.heap.size, 1, none⟩ (.int .i64 v.b)).setCell ⟨w.heap.size, 2, none⟩ (.bool v.same)).setCell ⟨w.heap.size, 3, none⟩ (.int .i64 v.time)).cell? ⟨w.heap.size, 3, none⟩ = some (.int .i64 v.time) := b9.cells.1 3
    have k9 : Kept g w (((((w4.setCell ⟨w2.heap.size, 0, none⟩ (.int .i64 y)).setCell ⟨w.heap.size, 0, none⟩ (.int .i64 y)).setCell ⟨w.heap.size, 1, none⟩ (.int .i64 v.b)).setCell ⟨w.heap.size, 2, none⟩ (.bool v.same)).setCell ⟨w.heap.size, 3, none⟩ (.int .i64 v.time)) := ((((kL9.setN (Nat.le_refl _) _).setN (Nat.le_refl _) _).setN (Nat.le_refl _) _).setN (Nat.le_refl _) _)
    have c9 : Cur w0 (((((w4.setCell ⟨w2.heap.size, 0, none⟩ (.int .i64 y)).setCell ⟨w.heap.size, 0, none⟩ (.int .i64 y)).setCell ⟨w.heap.size, 1, none⟩ (.int .i64 v.b)).setCell ⟨w.heap.size, 2, none⟩ (.bool v.same)).setCell ⟨w.heap.size, 3, none⟩ (.int .i64 v.time)) g := ((((cL9.setN hg _).setN hg _).setN hg _).setN hg _)
    refine bodyPost_ret (v := .agg #[.int .i64 y, .int .i64 v.b, .bool v.same, .int .i64 v.time]) (by simp [results, Tryd.results39, go_sem, r0, r1, r2, r3]) rfl ?_
    exact ⟨⟨y, v.b, v.same, v.time⟩, rfl, HI.out, c9, k9⟩
  · by_cases h1 : x = 1
    · subst h1
      go_wp2_with fail
      refine (spec_l1PickInt w0 _ g _ [0, 999, 1000] (by show 1 ≤ 3 ∧ 3 ≤ 256; decide) (hc3.ext ((Ext.refl _).alloc _)) (fun w4 k4 => (lit_kept rfl (by simp [I64]) (by show 3 ≤ maxLen; decide) hg3 k4).sl)).mono ?_
      rintro e w4 ⟨y, rfl, hy, hc4, hk4⟩
      replace hk4 := (Ext.kept (g := g) ((Ext.refl _).alloc _)).trans hk4
      have hg4 := hc4.base.2.2
      have bLn := bL3.kept (Nat.ne_of_gt hgL) hk4
      have bRn := bR3.kept (Nat.ne_of_gt hg) hk4
      have hkn := hk03.trans hk4
      clear hk4 hg4 hc3 bL3 bR3 hk03
      have bL9 : Blk (w4.setCell ⟨w2.heap.size, 3, none⟩ (.int .i64 y)) w2.heap.size 26 [.int .i64 v.a, .int .i64 v.b, .bool v.same, .int .i64 y] := (bLn.setAt 3 (by show 3 < 4; decide) (.int .i64 y))
      have bR9 := (bRn.other (i := 3) (u := .int .i64 y) hnRL)
      have kL9 : Kept g w (w4.setCell ⟨w2.heap.size, 3, none⟩ (.int .i64 y)) := (hkn.setN hwL _)
      have cL9 : Cur w0 (w4.setCell ⟨w2.heap.size, 3, none⟩ (.int .i64 y)) g := (hc4.setN hgL _)
      have HI := hid (show Verdict.ok ⟨v.a, v.b, v.same, y⟩ from ⟨va, vb, hy⟩)
      obtain ⟨cL0, fL0⟩ := bLn.cells
      obtain ⟨cL, fL⟩ := bL9.cells
      obtain ⟨cR, fR⟩ := bR9.cells
      go_wp2
      have b9 : Blk (((((w4.setCell ⟨w2.heap.size, 3, none⟩ (.int .i64 y)).setCell ⟨w.heap.size, 0, none⟩ (.int .i64 v.a)).setCell ⟨w.heap.size, 1, none⟩ (.int .i64 v.b)).setCell ⟨w.heap.size, 2, none⟩ (.bool v.same)).setCell ⟨w.heap.size, 3, none⟩ (.int .i64 y)) w.heap.size 26 [.int .i64 v.a, .int .i64 v.b, .bool v.same, .int .i64 y] := ((((bR9.setAt 0 (by show 0 < 4; decide) (.int .i64 v.a)).setAt 1 (by show 1 < 4; decide) (.int .i64 v.b)).setAt 2 (by show 2 < 4; decide) (.bool v.same)).setAt 3 (by show 3 < 4; decide) (.int .i64 y))
      have r0 : (((((w4.setCell ⟨w2.heap.size, 3, none⟩ (.int .i64 y)).setCell ⟨w.heap.size, 0, none⟩ (.int .i64 v.a)).setCell ⟨w.heap.size, 1, none⟩ (.int .i64 v.b)).setCell ⟨w.heap.size, 2, none⟩ (.bool v.same)).setCell ⟨w.heap.size, 3, none⟩ (.int .i64 y)).cell? ⟨w.heap.size, 0, none⟩ = some (.int .i64 v.a) := b9.cells.1 0
      have r1 : (((((w4.setCell ⟨w2.heap.size, 3, none⟩ (.int .i64 y)).setCell ⟨w.heap.size, 0, none⟩ (.int .i64 v.a)).setCell ⟨w.heap.size, 1, none⟩ (.int .i64 v.b)).setCell ⟨w.heap.size, 2, none⟩ (.bool v.same)).setCell ⟨w.heap.size, 3, none⟩ (.int .i64 y)).cell? ⟨w.heap.size, 1, none⟩ = some (.int .i64 v.b) := b9.cells.1 1
      have r2 : (((((w4.setCell ⟨w2.heap.size, 3, none⟩ (.int .i64 y)).setCell ⟨w.heap.size, 0, none⟩ (.int .i64 v.a)).setCell ⟨w.heap.size, 1, none⟩ (.int .i64 v.b)).setCell ⟨w.heap.size, 2, none⟩ (.bool v.same)).setCell ⟨w.heap.size, 3, none⟩ (.int .i64 y)).cell? ⟨w.heap.size, 2, none⟩ = some (.bool v.same) := b9.cells.1 2
      have r3 : (((((w4.setCell ⟨w2.heap.size, 3, none⟩ (.int .i64 y)).setCell ⟨w.heap.size, 0, none⟩ (.int .i64 v.a)).setCell ⟨w.heap.size, 1, none⟩ (.int .i64 v.b)).setCell ⟨w.heap.size, 2, none⟩ (.bool v.same)).setCell ⟨w.heap.size, 3, none⟩ (.int .i64 y)).cell? ⟨w.heap.size, 3, none⟩ = some (.int .i64 y) := b9.cells.1 3
      have k9 : Kept g w (((((w4.setCell ⟨w2.heap.size, 3, none⟩ (.int .i64 y)).setCell ⟨w.heap.size, 0, none⟩ (.int .i64 v.a)).setCell ⟨w.heap.size, 1, none⟩ (.int .i64 v.b)).setCell ⟨w.heap.size, 2, none⟩ (.bool v.same)).setCell ⟨w.heap.size, 3, none⟩ (.int .i64 y)) := ((((kL9.setN (Nat.le_refl _) _).setN (Nat.le_refl _) _).setN (Nat.le_refl _) _).setN (Nat.le_refl _) _)
      have c9 : Cur w0 (((((w4.setCell ⟨w2.heap.size, 3, none⟩ (.int .i64 y)).setCell ⟨w.heap.size, 0, none⟩ (.int .i64 v.a)).setCell ⟨w.heap.size, 1, none⟩ (.int .i64 v.b)).setCell ⟨w.heap.size, 2, none⟩ (.bool v.same)).setCell ⟨w.heap.size, 3, none⟩ (.int .i64 y)) g := ((((cL9.setN hg _).setN hg _).setN hg _).setN hg _)
      refine bodyPost_ret (v := .agg #[.int .i64 v.a, .int .i64 v.b, .bool v.same, .int .i64 y]) (by simp [results, Tryd.results39, go_sem, r0, r1, r2, r3]) rfl ?_
      exact ⟨⟨v.a, v.b, v.same, y⟩, rfl, HI.out, c9, k9⟩
    · by_cases h2 : x = 2
      · subst h2
        have bL9 : Blk (w3.setCell ⟨w2.heap.size, 1, none⟩ (.int .i64 400)) w2.heap.size 26 [.int .i64 v.a, .int .i64 400, .bool v.same, .int .i64 v.time] := (bL3.setAt 1 (by show 1 < 4; decide) (.int .i64 400))
        have bR9 := (bR3.other (i := 1) (u := .int .i64 400) hnRL)
        have kL9 : Kept g w (w3.setCell ⟨w2.heap.size, 1, none⟩ (.int .i64 400)) := (hk03.setN hwL _)
        have cL9 : Cur w0 (w3.setCell ⟨w2.heap.size, 1, none⟩ (.int .i64 400)) g := (hc3.setN hgL _)
        have HI := hid (show Verdict.ok ⟨v.a, 400, v.same, v.time⟩ from ⟨va, by show I64 400; exact ⟨by decide, by decide⟩, vt⟩)
        obtain ⟨cL0, fL0⟩ := bL3.cells
        obtain ⟨cL, fL⟩ := bL9.cells
        obtain ⟨cR, fR⟩ := bR9.cells
        go_wp2
        have b9 : Blk (((((w3.setCell ⟨w2.heap.size, 1, none⟩ (.int .i64 400)).setCell ⟨w.heap.size, 0, none⟩ (.int .i64 v.a)).setCell ⟨w.heap.size, 1, none⟩ (.int .i64 400)).setCell ⟨w.heap.size, 2, none⟩ (.bool v.same)).setCell ⟨w.heap.size, 3, none⟩ (.int .i64 v.time)) w.heap.size 26 [.int .i64 v.a, .int .i64 400, .bool v.same, .int .i64 v.time] := ((((bR9.setAt 0 (by show 0 < 4; decide) (.int .i64 v.a)).setAt 1 (by show 1 < 4; decide) (.int .i64 400)).setAt 2 (by show 2 < 4; decide) (.bool v.same)).setAt 3 (by show 3 < 4; decide) (.int .i64 v.time))
        have r0 : (((((w3.setCell ⟨w2.heap.size, 1, none⟩ (.int .i64 400)).setCell ⟨w.heap.size, 0, none⟩ (.int .i64 v.a)).setCell ⟨w.heap.size, 1, none⟩ (.int .i64 400)).setCell ⟨w.heap.size, 2, none⟩ (.bool v.same)).setCell ⟨w.heap.size, 3, none⟩ (.int .i64 v.time)).cell? ⟨w.heap.size, 0, none⟩ = some (.int .i64 v.a) := b9.cells.1 0
        have r1 : (((((w3.setCell ⟨w2.heap.size, 1, none⟩ (.int .i64 400)).setCell ⟨w.heap.size, 0, none⟩ (.int .i64 v.a)).setCell ⟨w.heap.size, 1, none⟩ (.int .i64 400)).setCell ⟨w.heap.size, 2, none⟩ (.bool v.same)).setCell ⟨w.heap.size, 3, none⟩ (.int .i64 v.time)).cell? ⟨w.heap.size, 1, none⟩ = some (.int .i64 400) := b9.cells.1 1
        have r2 : (((((w3.setCell ⟨w2.heap.size, 1, none⟩ (.int .i64 400)).setCell ⟨w.heap.size, 0, none⟩ (.int .i64 v.a)).setCell ⟨w.heap.size, 1, none⟩ (.int .i64 400)).setCell ⟨w.heap.size, 2, none⟩ (.bool v.same)).setCell ⟨w.heap.size, 3, none⟩ (.int .i64 v.time)).cell? ⟨w.heap.size, 2, none⟩ = some (.bool v.same) := b9.cells.1 2
        have r3 : (((((w3.setCell ⟨w2.heap.size, 1, none⟩ (.int .i64 400)).setCell ⟨w.heap.size, 0, none⟩ (.int .i64 v.a)).setCell ⟨w.heap.size, 1, none⟩ (.int .i64 400)).setCell ⟨w.heap.size, 2, none⟩ (.bool v.same)).setCell ⟨w.heap.size, 3, none⟩ (.int .i64 v.time)).cell? ⟨w.heap.size, 3, none⟩ = some (.int .i64 v.time) := b9.cells.1 3
        have k9 : Kept g w (((((w3.setCell ⟨w2.heap.size, 1, none⟩ (.int .i64 400)).setCell ⟨w.heap.size, 0, none⟩ (.int .i64 v.a)).setCell ⟨w.heap.size, 1, none⟩ (.int .i64 400)).setCell ⟨w.heap.size, 2, none⟩ (.bool v.same)).setCell ⟨w.heap.size, 3, none⟩ (.int .i64 v.time)) := ((((kL9.setN (Nat.le_refl _) _).setN (Nat.le_refl _) _).setN (Nat.le_refl _) _).setN (Nat.le_refl _) _)
        have c9 : Cur w0 (((((w3.setCell ⟨w2.heap.size, 1, none⟩ (.int .i64 400)).setCell ⟨w.heap.size, 0, none⟩ (.int .i64 v.a)).setCell ⟨w.heap.size, 1, none⟩ (.int .i64 400)).setCell ⟨w.heap.size, 2, none⟩ (.bool v.same)).setCell ⟨w.heap.size, 3, none⟩ (.int .i64 v.time)) g := ((((cL9.setN hg _).setN hg _).setN hg _).setN hg _)
        refine bodyPost_ret (v := .agg #[.int .i64 v.a, .int .i64 400, .bool v.same, .int .i64 v.time]) (by simp [results, Tryd.results39, go_sem, r0, r1, r2, r3]) rfl ?_
        exact ⟨⟨v.a, 400, v.same, v.time⟩, rfl, HI.out, c9, k9⟩
      · obtain ⟨cL, fL⟩ := bL3.cells
        obtain ⟨cR, fR⟩ := bR3.cells
        go_wp2
        have b9 : Blk ((((w3.setCell ⟨w.heap.size, 0, none⟩ (.int .i64 v.a)).setCell ⟨w.heap.size, 1, none⟩ (.int .i64 v.b)).setCell ⟨w.heap.size, 2, none⟩ (.bool v.same)).setCell ⟨w.heap.size, 3, none⟩ (.int .i64 v.time)) w.heap.size 26 [.int .i64 v.a, .int .i64 v.b, .bool v.same, .int .i64 v.time] := ((((bR3.setAt 0 (by show 0 < 4; decide) (.int .i64 v.a)).setAt 1 (by show 1 < 4; decide) (.int .i64 v.b)).setAt 2 (by show 2 < 4; decide) (.bool v.same)).setAt 3 (by show 3 < 4; decide) (.int .i64 v.time))
        have r0 : ((((w3.setCell ⟨w.heap.size, 0, none⟩ (.int .i64 v.a)).setCell ⟨w.heap.size, 1, none⟩ (.int .i64 v.b)).setCell ⟨w.heap.size, 2, none⟩ (.bool v.same)).setCell ⟨w.heap.size, 3, none⟩ (.int .i64 v.time)).cell? ⟨w.heap.size, 0, none⟩ = some (.int .i64 v.a) := b9.cells.1 0
        have r1 : ((((w3.setCell ⟨w.heap.size, 0, none⟩ (.int .i64 v.a)).setCell ⟨w.heap.size, 1, none⟩ (.int .i64 v.b)).setCell ⟨w.heap.size, 2, none⟩ (.bool v.same)).setCell ⟨w.heap.size, 3, none⟩ (.int .i64 v.time)).cell? ⟨w.heap.size, 1, none⟩ = some (.int .i64 v.b) := b9.cells.1 1
        have r2 : ((((w3.setCell ⟨w.heap.size, 0, none⟩ (.int .i64 v.a)).setCell ⟨w.heap.size, 1, none⟩ (.int .i64 v.b)).setCell ⟨w.heap.size, 2, none⟩ (.bool v.same)).setCell ⟨w.heap.size, 3, none⟩ (.int .i64 v.time)).cell? ⟨w.heap.size, 2, none⟩ = some (.bool v.same) := b9.cells.1 2
        have r3 : ((((w3.setCell ⟨w.heap.size, 0, none⟩ (.int .i64 v.a)).setCell ⟨w.heap.size, 1, none⟩ (.int .i64 v.b)).setCell ⟨w.heap.size, 2, none⟩ (.bool v.same)).setCell ⟨w.heap.size, 3, none⟩ (.int .i64 v.time)).cell? ⟨w.heap.size, 3, none⟩ = some (.int .i64 v.time) := b9.cells.1 3
        have k9 : Kept g w ((((w3.setCell ⟨w.heap.size, 0, none⟩ (.int .i64 v.a)).setCell ⟨w.heap.size, 1, none⟩ (.int .i64 v.b)).setCell ⟨w.heap.size, 2, none⟩ (.bool v.same)).setCell ⟨w.heap.size, 3, none⟩ (.int .i64 v.time)) := ((((hk03.setN (Nat.le_refl _) _).setN (Nat.le_refl _) _).setN (Nat.le_refl _) _).setN (Nat.le_refl _) _)
        have c9 : Cur w0 ((((w3.setCell ⟨w.heap.size, 0, none⟩ (.int .i64 v.a)).setCell ⟨w.heap.size, 1, none⟩ (.int .i64 v.b)).setCell ⟨w.heap.size, 2, none⟩ (.bool v.same)).setCell ⟨w.heap.size, 3, none⟩ (.int .i64 v.time)) g := ((((hc3.setN hg _).setN hg _).setN hg _).setN hg _)
        refine bodyPost_ret (v := .agg #[.int .i64 v.a, .int .i64 v.b, .bool v.same, .int .i64 v.time]) (by simp [results, Tryd.results39, go_sem, r0, r1, r2, r3]) rfl ?_
        exact ⟨v, rfl, vok, c9, k9⟩

end Go.Proofs.YtblggajfdhjmjaaDoor

namespace Go.Proofs.YtblggajfdhjmjaaDoor
open Go.RowKit

theorem two_of {α : Type} {l : List α} (h : l.length = 2) : ∃ a b, l = [a, b] := by
  match l, h with
  | [a, b], _ => exact ⟨a, b, rfl⟩
/-- a list of two strings in memory -/
theorem OwnSl.two {w : World} {v : Value} {a b : ByteArray} {F : List Nat} (h : OwnSl strO w v [a, b] F) : ∃ g off cap, v = .slice (some ⟨g, off, none⟩) 2 cap ∧ w.cell? ⟨g, off, none⟩ = some (.string a) ∧ w.cell? ⟨g, off + 1, none⟩ = some (.string b) ∧ g < w.heap.size ∧ a.size ≤ maxLen ∧ b.size ≤ maxLen ∧ g ∈ F := by
  have hs := OwnSl.sl h
  rcases h with ⟨e, _⟩ | ⟨g, off, cap, cur, T, F2, rfl, _, _, rfl, _, _⟩
  · cases e
  · skip
    obtain ⟨g1, off1, e, ha, hc⟩ := hs.str (i := 0) (by simp)
    obtain ⟨g2, off2, e2, hb, hc2⟩ := hs.str (i := 1) (by simp)
    injection e with e
    injection e with e1 e3 _
    injection e2 with e2
    injection e2 with e4 e5 _
    subst e1; subst e3; subst e4; subst e5
    exact ⟨_, _, cap, rfl, hc, hc2, World.block_lt_of_cell? _ _ hc, ha, hb, List.mem_cons_self ..⟩
/-- a verdict as a value -/
def verV (v : Verdict) : Value := .agg #[.int .i64 v.a, .int .i64 v.b, .bool v.same, .int .i64 v.time]
end Go.Proofs.YtblggajfdhjmjaaDoor

namespace Go.Proofs.YtblggajfdhjmjaaDoor
open Go.RowKit

theorem elemVer : ElemT Tryd.prog 24 26 verdictO.n 32 := by
  obtain ⟨i, h1, h2, h3, h4⟩ := info_parts infoVer
  exact ⟨Tryd.underlying24, i, _, h1, h2, h3, h4, rfl⟩
theorem one_ver (a b : Int) (c : Bool) (d : Int) : ∀ u ∈ (#[Value.int .i64 a, .int .i64 b, .bool c, .int .i64 d] : Array Value).toList, u.oneCell' = true := by simp [Value.oneCell']

/-- the last element of a list that grows: its cells; a store of a whole verdict there -/
theorem Bld.ver_last {w : World} {base : Nat} {e : TypeId} {A : Option Addr} {n cap : Nat} {xs : List Verdict} {l : Verdict} (h : Bld verdictO w base e (.slice A n cap) (xs ++ [l]) []) :
    n = xs.length + 1 ∧ ∃ g, A = some ⟨g, 0, none⟩ ∧ base ≤ g ∧ g < w.heap.size ∧ (w.cell? ⟨g, xs.length * 4, none⟩ = some (.int .i64 l.a) ∧ w.cell? ⟨g, xs.length * 4 + 1, none⟩ = some (.int .i64 l.b) ∧ w.cell? ⟨g, xs.length * 4 + 2, none⟩ = some (.bool l.same) ∧ w.cell? ⟨g, xs.length * 4 + 3, none⟩ = some (.int .i64 l.time)) ∧
      (∀ i, w.frozen? ⟨g, i, none⟩ = false) ∧ ∀ y : Verdict, y.ok → Bld verdictO ((((w.setCell ⟨g, xs.length * 4, none⟩ (.int .i64 y.a)).setCell ⟨g, xs.length * 4 + 1, none⟩ (.int .i64 y.b)).setCell ⟨g, xs.length * 4 + 2, none⟩ (.bool y.same)).setCell ⟨g, xs.length * 4 + 3, none⟩ (.int .i64 y.time)) base e (.slice A n cap) (xs ++ [y]) [] := by
  have hlt := h.lt
  obtain ⟨cs, h1, h2, _, _, _⟩ := h
  have hlen : (xs ++ [l]).length = xs.length + 1 := by simp
  rcases h1.2 with ⟨e0, hn⟩ | ⟨g, cap', cur, e0, hb, hh, hr⟩
  · rw [hlen] at hn; omega
  · injection e0 with e1 e2 e3
    subst e1; subst e3
    rw [hlen] at e2
    subst e2
    refine ⟨rfl, g, rfl, hb, block_lt hh, ?_⟩
    rw [hlen] at h1
    obtain ⟨c0, c, c1, F0, F1, F2, rfl, hF, l0, _, k0, k1, k2⟩ := h2.split xs.length (by rw [hlen]; omega)
    have hF0 : F0 = [] := (List.append_eq_nil_iff.1 hF.symm).1
    have hF2 : F2 = [] := (List.append_eq_nil_iff.1 (List.append_eq_nil_iff.1 hF.symm).2).2
    subst hF0; subst hF2
    rw [List.getElem_append_right (by omega)] at k1
    simp only [Nat.sub_self, List.getElem_singleton] at k1
    obtain ⟨⟨rfl, hok⟩, rfl⟩ := k1
    rw [show (xs ++ [l]).drop (xs.length + 1) = [] by simp] at k2
    obtain ⟨rfl, _⟩ := k2
    rw [List.append_nil] at h1
    rw [show (xs ++ [l]).take xs.length = xs by simp] at k0
    have hn : verdictO.n = 4 := rfl
    rw [hn] at l0 h1
    have hat := fun j (hj : j < 4) => h1.cellAt (xs.length * 4 + j) (by omega)
    have hget : ∀ j, (c0 ++ l.cells)[xs.length * 4 + j]? = l.cells[j]? := fun j => by rw [List.getElem?_append_right (by omega), l0]; congr 1; omega
    refine ⟨⟨by simpa [hget, Verdict.cells] using (hat 0 (by omega)).trans (hget 0), by simpa [Verdict.cells] using (hat 1 (by omega)).trans (hget 1), by simpa [Verdict.cells] using (hat 2 (by omega)).trans (hget 2), by simpa [Verdict.cells] using (hat 3 (by omega)).trans (hget 3)⟩, h1.frozenAt, fun y hy => ?_⟩
    have s0 := h1.stored (xs.length * 4) (.int .i64 y.a)
    have s1 := s0.1.stored (xs.length * 4 + 1) (.int .i64 y.b)
    have s2 := s1.1.stored (xs.length * 4 + 2) (.bool y.same)
    have s3 := s2.1.stored (xs.length * 4 + 3) (.int .i64 y.time)
    have hset : ((((c0 ++ l.cells).set (xs.length * 4) (.int .i64 y.a)).set (xs.length * 4 + 1) (.int .i64 y.b)).set (xs.length * 4 + 2) (.bool y.same)).set (xs.length * 4 + 3) (.int .i64 y.time) = c0 ++ y.cells := by
      rw [← l0]
      simp [Verdict.cells, List.set_append]
    rw [hset] at s3
    refine ⟨c0 ++ y.cells, by rw [List.length_append]; exact s3.1, ?_, fun _ _ hm => (by cases hm), List.nodup_nil, fun _ hm => by cases hm⟩
    have := OwnCells.snoc (k0.keep (w2 := ((((w.setCell ⟨g, xs.length * 4, none⟩ (.int .i64 y.a)).setCell ⟨g, xs.length * 4 + 1, none⟩ (.int .i64 y.b)).setCell ⟨g, xs.length * 4 + 2, none⟩ (.bool y.same)).setCell ⟨g, xs.length * 4 + 3, none⟩ (.int .i64 y.time))) fun b hb => by cases hb) (k := (⟨⟨rfl, hy⟩, rfl⟩ : verdictO.own _ y.cells y []))
    simpa using this

def curStep (out : List Verdict) (v : Verdict) : List Verdict :=
  match out.getLast? with
  | none => out ++ [v]
  | some l => if l.a = v.a ∧ l.b = v.b then (if l.time < v.time then out.dropLast ++ [v] else out) else out ++ [v]
def curV (xs : List Verdict) : List Verdict := if areVers xs then xs.foldl curStep [] else []
theorem curStep_nil (v : Verdict) : curStep [] v = [v] := rfl
theorem curStep_new {xs : List Verdict} {l v : Verdict} (h : ¬ (l.a = v.a ∧ l.b = v.b)) : curStep (xs ++ [l]) v = (xs ++ [l]) ++ [v] := by unfold curStep; simp [h]
theorem curStep_set {xs : List Verdict} {l v : Verdict} (h : l.a = v.a) (h1 : l.b = v.b) (h2 : l.time < v.time) : curStep (xs ++ [l]) v = xs ++ [v] := by unfold curStep; simp [h, h1, h2]
theorem curStep_old {xs : List Verdict} {l v : Verdict} (h : l.a = v.a) (h1 : l.b = v.b) (h2 : ¬ l.time < v.time) : curStep (xs ++ [l]) v = xs ++ [l] := by unfold curStep; simp [h, h1, h2]
theorem cur_step (xs : List Verdict) (k : Nat) (h : k < xs.length) : (xs.take (k + 1)).foldl curStep [] = curStep ((xs.take k).foldl curStep []) xs[k] := by
  rw [List.take_succ_eq_append_getElem h, List.foldl_append]; rfl
theorem curStep_len (out : List Verdict) (v : Verdict) : (curStep out v).length ≤ out.length + 1 := by
  rcases List.eq_nil_or_concat out with rfl | ⟨xs, l, rfl⟩
  · simp [curStep_nil]
  · rw [List.concat_eq_append]
    by_cases h : l.a = v.a ∧ l.b = v.b
    · by_cases h2 : l.time < v.time
      · rw [curStep_set h.1 h.2 h2]; simp
      · rw [curStep_old h.1 h.2 h2]; simp
    · rw [curStep_new h]; simp
theorem cur_len (xs : List Verdict) (k : Nat) (h : k ≤ xs.length) : ((xs.take k).foldl curStep []).length ≤ k := by
  induction k with
  | zero => simp
  | succ k ih =>
    rw [cur_step xs k (by omega)]
    have := curStep_len ((xs.take k).foldl curStep []) xs[k]
    have := ih (by omega)
    omega
theorem vers_len {xs : List Verdict} (h : areVers xs = true) : xs.length ≤ 8 := by
  unfold areVers at h; rw [Bool.and_eq_true] at h; exact of_decide_eq_true h.2
end Go.Proofs.YtblggajfdhjmjaaDoor

namespace Go.Proofs.YtblggajfdhjmjaaDoor
open Go.RowKit

noncomputable def idxV (xs : List Verdict) (x : Verdict) : Int := idxF (fun y => eqB y x) 0 xs

set_option maxHeartbeats 400000 in
set_option maxRecDepth 20000 in
theorem spec_l28At (v : Value) (xs : List Verdict) (x : Verdict) (w : World) (h : Sl verdictR w v xs) :
    Calls Tryd.prog 24 #[v, .agg #[.int .i64 x.a, .int .i64 x.b, .bool x.same, .int .i64 x.time]] w fun e w2 => e = .returned (.int .i64 (idxV xs x)) ∧ Ext w w2 := by
  obtain ⟨A, cap, rfl, hm⟩ := h.form
  have xB : Ext w (w.alloc (.cells #[.int .i64 x.a, .int .i64 x.b, .bool x.same, .int .i64 x.time] 26)) := (Ext.refl _).alloc _
  have HB := hid (show ∀ W, Ext (w.alloc (.cells #[.int .i64 x.a, .int .i64 x.b, .bool x.same, .int .i64 x.time] 26)) W → W.cell? ⟨w.heap.size, 0, none⟩ = some (.int .i64 x.a) ∧ W.cell? ⟨w.heap.size, 1, none⟩ = some (.int .i64 x.b) ∧ W.cell? ⟨w.heap.size, 2, none⟩ = some (.bool x.same) ∧ W.cell? ⟨w.heap.size, 3, none⟩ = some (.int .i64 x.time) from fun W z => ⟨z.box.1 0, z.box.1 1, z.box.1 2, z.box.1 3⟩)
  go_enter Tryd.func24, Tryd.ntmps24
  go_wp2
  go_loopw [5] (fun i wr => ∃ k : Nat, k ≤ xs.length ∧ i = .int .i64 k ∧ (∀ y ∈ xs.take k, eqB y x = false) ∧ Ext (w.alloc (.cells #[.int .i64 x.a, .int .i64 x.b, .bool x.same, .int .i64 x.time] 26)) wr) (fun i _ => xs.length - (intOf i).toNat)
  case atStart => exact ⟨0, Nat.zero_le _, rfl, by simp, Ext.refl _⟩
  case round =>
    obtain ⟨k, hk, rfl, hz, hx⟩ := hrel
    have HZ := hid hz
    clear hz
    have xw : Ext w wr := xB.trans hx
    by_cases hlt : k < xs.length
    · obtain ⟨b, off, rfl, hok, hc0, hc1, hc2, hc3⟩ := (h.mono xw).verdict hlt
      clear hok
      obtain ⟨d0, d1, d2, d3⟩ := HB.out _ hx
      have y0 : ∀ z : ExtOf wr, z.1.cell? ⟨b, off + k * 4, none⟩ = _ := fun z => z.2.cell hc0
      have y1 : ∀ z : ExtOf wr, z.1.cell? ⟨b, off + k * 4 + 1, none⟩ = _ := fun z => z.2.cell hc1
      have y2 : ∀ z : ExtOf wr, z.1.cell? ⟨b, off + k * 4 + 2, none⟩ = _ := fun z => z.2.cell hc2
      have y3 : ∀ z : ExtOf wr, z.1.cell? ⟨b, off + k * 4 + 3, none⟩ = _ := fun z => z.2.cell hc3
      have z0 : ∀ z : ExtOf wr, z.1.cell? ⟨w.heap.size, 0, none⟩ = _ := fun z => z.2.cell d0
      have z1 : ∀ z : ExtOf wr, z.1.cell? ⟨w.heap.size, 1, none⟩ = _ := fun z => z.2.cell d1
      have z2 : ∀ z : ExtOf wr, z.1.cell? ⟨w.heap.size, 2, none⟩ = _ := fun z => z.2.cell d2
      have z3 : ∀ z : ExtOf wr, z.1.cell? ⟨w.heap.size, 3, none⟩ = _ := fun z => z.2.cell d3
      rcases ver_cases xs[k] x with ⟨he, e1, e2, e3, e4⟩ | ⟨hne, hw⟩
      · have H0 := hid he
        clear he
        go_wp2_with fail
        refine wp_region_ext (by kernel_rfl) (by kernel_rfl) ?_
        repeat (go_big_quiet_step ((fail)))
        refine wpQuiet_nil ?_
        rintro w1 ⟨⟨_, x1⟩, rfl⟩
        go_wp2
        go_ret
        exact ⟨ret_int (idxF_at (fun y => eqB y x) xs k hlt HZ.out (eqB_true H0.out)).symm, xw.trans x1⟩
      · have H0 := hid hne
        clear hne
        rcases hw with e1 | ⟨e1, e2⟩ | ⟨e1, e2, e3⟩ | ⟨e1, e2, e3, e4⟩
        all_goals
          go_wp2_with fail
          refine wp_region_ext (by kernel_rfl) (by kernel_rfl) ?_
          repeat (go_big_quiet_step ((fail)))
          refine wpQuiet_nil ?_
          rintro w1 ⟨⟨_, x1⟩, rfl⟩
          go_wp2
          go_roundw
        all_goals try (case rel => exact ⟨k + 1, by omega, by go_num, take_snoc_all (fun y => eqB y x = false) xs k hlt HZ.out (eqB_false H0.out), hx.trans x1⟩)
        all_goals (simp [intOf]; omega)
    · go_wp2
      go_ret
      exact ⟨ret_int (idxF_all (fun y => eqB y x) xs k hlt HZ.out).symm, xw⟩

set_option maxHeartbeats 400000 in
set_option maxRecDepth 20000 in
theorem slices_Index_v (v : Value) (xs : List Verdict) (x : Verdict) (w : World) (h : Sl verdictR w v xs) :
    Calls Tryd.prog 27 #[v, .agg #[.int .i64 x.a, .int .i64 x.b, .bool x.same, .int .i64 x.time]] w fun e w2 => e = .returned (.int .i64 (idxV xs x)) ∧ Ext w w2 := by
  obtain ⟨A, cap, rfl, hm⟩ := h.form
  have xB : Ext w (w.alloc (.cells #[.int .i64 x.a, .int .i64 x.b, .bool x.same, .int .i64 x.time] 26)) := (Ext.refl _).alloc _
  have HB := hid (show ∀ W, Ext (w.alloc (.cells #[.int .i64 x.a, .int .i64 x.b, .bool x.same, .int .i64 x.time] 26)) W → W.cell? ⟨w.heap.size, 0, none⟩ = some (.int .i64 x.a) ∧ W.cell? ⟨w.heap.size, 1, none⟩ = some (.int .i64 x.b) ∧ W.cell? ⟨w.heap.size, 2, none⟩ = some (.bool x.same) ∧ W.cell? ⟨w.heap.size, 3, none⟩ = some (.int .i64 x.time) from fun W z => ⟨z.box.1 0, z.box.1 1, z.box.1 2, z.box.1 3⟩)
  go_enter Tryd.func27, Tryd.ntmps27
  go_wp2
  go_loopw [8] (fun i wr => ∃ k : Nat, k ≤ xs.length ∧ i = .int .i64 k ∧ (∀ y ∈ xs.take k, eqB y x = false) ∧ Ext (w.alloc (.cells #[.int .i64 x.a, .int .i64 x.b, .bool x.same, .int .i64 x.time] 26)) wr) (fun i _ => xs.length - (intOf i).toNat)
  case atStart => exact ⟨0, Nat.zero_le _, rfl, by simp, Ext.refl _⟩
  case round =>
    obtain ⟨k, hk, rfl, hz, hx⟩ := hrel
    have HZ := hid hz
    clear hz
    have xw : Ext w wr := xB.trans hx
    by_cases hlt : k < xs.length
    · obtain ⟨b, off, rfl, hok, hc0, hc1, hc2, hc3⟩ := (h.mono xw).verdict hlt
      clear hok
      obtain ⟨d0, d1, d2, d3⟩ := HB.out _ hx
      have y0 : ∀ z : ExtOf wr, z.1.cell? ⟨b, off + k * 4, none⟩ = _ := fun z => z.2.cell hc0
      have y1 : ∀ z : ExtOf wr, z.1.cell? ⟨b, off + k * 4 + 1, none⟩ = _ := fun z => z.2.cell hc1
      have y2 : ∀ z : ExtOf wr, z.1.cell? ⟨b, off + k * 4 + 2, none⟩ = _ := fun z => z.2.cell hc2
      have y3 : ∀ z : ExtOf wr, z.1.cell? ⟨b, off + k * 4 + 3, none⟩ = _ := fun z => z.2.cell hc3
      have z0 : ∀ z : ExtOf wr, z.1.cell? ⟨w.heap.size, 0, none⟩ = _ := fun z => z.2.cell d0
      have z1 : ∀ z : ExtOf wr, z.1.cell? ⟨w.heap.size, 1, none⟩ = _ := fun z => z.2.cell d1
      have z2 : ∀ z : ExtOf wr, z.1.cell? ⟨w.heap.size, 2, none⟩ = _ := fun z => z.2.cell d2
      have z3 : ∀ z : ExtOf wr, z.1.cell? ⟨w.heap.size, 3, none⟩ = _ := fun z => z.2.cell d3
      rcases ver_cases x xs[k] with ⟨he, e1, e2, e3, e4⟩ | ⟨hne, hw⟩
      · have H0 := hid he
        clear he
        go_wp2_with fail
        refine wp_region_ext (by kernel_rfl) (by kernel_rfl) ?_
        repeat (go_big_quiet_step ((fail)))
        refine wpQuiet_nil ?_
        rintro w1 ⟨⟨_, x1⟩, rfl⟩
        go_wp2
        go_ret
        exact ⟨ret_int (idxF_at (fun y => eqB y x) xs k hlt HZ.out (eqB_true H0.out.symm)).symm, xw.trans x1⟩
      · have H0 := hid hne
        clear hne
        rcases hw with e1 | ⟨e1, e2⟩ | ⟨e1, e2, e3⟩ | ⟨e1, e2, e3, e4⟩
        all_goals
          go_wp2_with fail
          refine wp_region_ext (by kernel_rfl) (by kernel_rfl) ?_
          repeat (go_big_quiet_step ((fail)))
          refine wpQuiet_nil ?_
          rintro w1 ⟨⟨_, x1⟩, rfl⟩
          go_wp2
          go_roundw
        all_goals try (case rel => exact ⟨k + 1, by omega, by go_num, take_snoc_all (fun y => eqB y x = false) xs k hlt HZ.out (eqB_false (fun e => H0.out e.symm)), hx.trans x1⟩)
        all_goals (simp [intOf]; omega)
    · go_wp2
      go_ret
      exact ⟨ret_int (idxF_all (fun y => eqB y x) xs k hlt HZ.out).symm, xw⟩


end Go.Proofs.YtblggajfdhjmjaaDoor

namespace Go.Proofs.YtblggajfdhjmjaaDoor
open Go.RowKit

theorem vflat_get : ∀ (ys : List Verdict) (j : Nat), (ys.flatMap Verdict.cells)[j]? = (ys[j / 4]?).bind fun y => y.cells[j % 4]?
  | [], j => by simp
  | y :: ys, j => by
    have hl : y.cells.length = 4 := rfl
    rw [List.flatMap_cons]
    by_cases h : j < 4
    · rw [List.getElem?_append_left (by omega), show j / 4 = 0 by omega, show j % 4 = j by omega]; rfl
    · rw [List.getElem?_append_right (by omega), hl, vflat_get ys (j - 4), show j / 4 = (j - 4) / 4 + 1 by omega, show j % 4 = (j - 4) % 4 by omega]; rfl
theorem vflat_len (ys : List Verdict) : (ys.flatMap Verdict.cells).length = ys.length * 4 := by
  induction ys with
  | nil => rfl
  | cons y ys ih => rw [List.flatMap_cons, List.length_append, ih, show y.cells.length = 4 from rfl, List.length_cons]; omega
theorem vers_own (ys : List Verdict) (h : ∀ y ∈ ys, y.ok) (W : World) : OwnCells verdictO W (ys.flatMap Verdict.cells) ys [] := by
  induction ys with
  | nil => exact .nil
  | cons y ys ih => exact ⟨y.cells, _, [], [], rfl, rfl, ⟨⟨rfl, h y (List.mem_cons_self ..)⟩, rfl⟩, ih fun z hz => h z (List.mem_cons_of_mem _ hz)⟩
theorem Sl.vers_some {w : World} {ad : Addr} {n cap : Nat} {ys : List Verdict} (h : Sl verdictR w (.slice (some ad) n cap) ys) : (∀ y ∈ ys, y.ok) ∧ ∀ j u, (ys.flatMap Verdict.cells)[j]? = some u → w.cell? (ad.add j) = some u := by
  refine ⟨fun y hy => ?_, fun j u hj => ?_⟩
  · obtain ⟨i, hi, rfl⟩ := List.getElem_of_mem hy
    obtain ⟨_, _, _, _, ⟨_, h1⟩, _⟩ := h.at_ hi
    exact h1
  · rw [vflat_get] at hj
    obtain ⟨y, hy, hc⟩ := Option.bind_eq_some_iff.1 hj
    obtain ⟨hi, rfl⟩ := List.getElem?_eq_some_iff.1 hy
    obtain ⟨b, off, cs, e, ⟨rfl, _⟩, h2⟩ := h.at_ hi
    injection e with e
    subst e
    have h3 := h2 (j % 4) (Nat.mod_lt _ (by decide))
    rw [add_eq, ← hc, ← h3]
    have h4 : verdictR.n = 4 := rfl
    rw [h4, show off + j / 4 * 4 + j % 4 = off + j by omega]
theorem vers_one (ys : List Verdict) : ∀ u ∈ ys.flatMap Verdict.cells, u.oneCell' = true := by
  intro u hu
  obtain ⟨y, _, hy⟩ := List.mem_flatMap.1 hu
  simp only [Verdict.cells, List.mem_cons, List.not_mem_nil, or_false] at hy
  rcases hy with rfl | rfl | rfl | rfl <;> rfl
/-- 'append(s, t...)': the verdicts of t, which may be the caller's -/
theorem wpList_appv {P : Program} {ops : Array Oper} {rest : List Oper} {o : Oper} {a : Act} {w : World} {Q : Exit → Act → World → Prop} {t e : TypeId} {bytes : Nat} (E : ElemT P t e verdictO.n bytes) (hby : bytes ≤ 128)
    (hgd : o.guard = none) (s x : Operand) (ho : o.op = .call { callee := .builtin .append, args := #[s, x], argTypes := #[t, t] })
    {base : Nat} {v : Value} {xs : List Verdict} (hb : Bld verdictO w base e v xs []) (hs : a.eval s = v) {A : Option Addr} {n k : Nat} (hx : a.eval x = .slice A n k) {ys : List Verdict} (hy : Sl verdictR w (.slice A n k) ys)
    (hbytes : xs.length + ys.length ≤ 1099511627776) (hbase : base ≤ w.heap.size)
    (h : ∀ v' w', Bld verdictO w' base e v' (xs ++ ys) [] → (∀ w0 : World, w0.heap.size ≤ base → Ext w0 w → Ext w0 w') → wpList P ops Q rest (a.put o.dst v') w') :
    wpList P ops Q (o :: rest) a w := by
  obtain ⟨ht, i, z, hi, hz, hsize, hby2, hzs⟩ := E
  have hn : n = ys.length := hy.cap_.1
  cases A with
  | none =>
    have h0 : ys = [] := by
      cases ys with
      | nil => rfl
      | cons y ys =>
        obtain ⟨_, _, _, e, _⟩ := hy.at_ (show 0 < (y :: ys).length by simp)
        cases e
    subst h0
    have hn0 : n = 0 := hn
    subst hn0
    obtain ⟨cs, b1, b2⟩ := hb
    refine wpList_plain hgd fun K hK => ?_
    have hr : (Builtin.append_ #[t, t] o.type #[v, .slice none 0 k]).run P w = .ok v w := by
      rcases b1.2 with ⟨rfl, _⟩ | ⟨g, cap, cur, rfl, _, _, hnc, _⟩
      · simp [Builtin.append_, run_underlying ht, sizeOf, typeInfo, hi, Builtin.lenOf, Builtin.firstCells]
      · simp [Builtin.append_, run_underlying ht, sizeOf, typeInfo, hi, Builtin.lenOf, Builtin.firstCells, hnc, storeCells]
    unfold Oper.wp execOp
    simp only [ho, resolve, invoke, builtin, Sem.run_bind, Sem.run_pure, Result.andThen_ok, List.map_toArray, List.map_cons, List.map_nil, hs, hx, hr]
    exact hK _ _ (h v w (by rw [List.append_nil]; exact ⟨cs, b1, b2⟩) fun _ _ hx => hx)
  | some ad =>
    obtain ⟨hI, hc⟩ := hy.vers_some
    have hl := hb.lt
    obtain ⟨cs, b1, b2, b3, b4, b5⟩ := hb
    have h4 : verdictO.n = 4 := rfl
    refine wpList_append_own_at w hgd s x t ho base e i z verdictO.n bytes ht hi hz hsize hby2 hzs (by decide) v xs.length cs hs b1 ad n k (ys.flatMap Verdict.cells) hx (by rw [vflat_len, hn, h4]) hc (vers_one ys) (by unfold maxLen; omega)
      (Nat.le_trans (Nat.mul_le_mul (show xs.length + n ≤ 1099511627776 by omega) hby) (by decide)) hbase ?_
    intro v' w' hown hgr _ hat
    refine h v' w' ⟨cs ++ ys.flatMap Verdict.cells, by rw [List.length_append, ← hn]; exact hown, ?_, fun _ _ hm => (by cases hm), List.nodup_nil, fun _ hm => by cases hm⟩ fun w0 h0 hx0 => hx0.grown hgr fun g hg => Nat.le_trans h0 (hl.2 g hg).2
    have := OwnCells.append (b2.keep (w2 := w') fun b hb => by cases hb) (vers_own ys hI w')
    simpa using this

set_option maxHeartbeats 400000 in
set_option maxRecDepth 20000 in
theorem spec_l28Copy (v : Value) (xs : List Verdict) (w : World) (h : Sl verdictR w v xs) (hl : xs.length ≤ 1048576) :
    Calls Tryd.prog 25 #[v] w fun e w2 => ∃ v2 F, e = .returned v2 ∧ OwnSl verdictO w2 v2 xs F ∧ NewF w F ∧ Ext w w2 := by
  obtain ⟨A, cap, rfl, hm⟩ := h.form
  go_enter Tryd.func25, Tryd.ntmps25
  go_wp2_with (at_builtin; refine wpList_appv elemVer (by decide) rfl _ _ rfl (Bld.lit w (Nat.le_refl _) _) rfl rfl (h.mono ((Ext.refl _).alloc _)) (by simp; omega) (by simp) ?_; intro v9 w9 hB9 hE9)
  go_ret
  obtain ⟨F', d1, d2, d3⟩ := hB9.done
  exact ⟨_, F', rfl, by simpa using d1, ⟨d2, d3⟩, hE9 w (Nat.le_refl _) ((Ext.refl _).alloc _)⟩
end Go.Proofs.YtblggajfdhjmjaaDoor

namespace Go.Proofs.YtblggajfdhjmjaaDoor
open Go.RowKit

def vlt (x y : Verdict) : Prop := x.a < y.a ∨ x.a = y.a ∧ (x.b < y.b ∨ x.b = y.b ∧ (x.time < y.time ∨ x.time = y.time ∧ x.same = false ∧ y.same = true))
theorem cmpI_cases (a b : Int) : (a < b ∧ cmpI a b = -1) ∨ (a = b ∧ cmpI a b = 0) ∨ (b < a ∧ cmpI a b = 1) := by
  unfold cmpI
  by_cases h : a < b
  · rw [if_pos h]; exact .inl ⟨h, rfl⟩
  · rw [if_neg h]
    by_cases k : b < a
    · rw [if_pos k]; exact .inr (.inr ⟨k, rfl⟩)
    · rw [if_neg k]; exact .inr (.inl ⟨by omega, rfl⟩)
theorem cmpV_cases (x y : Verdict) : (vlt x y ∧ cmpV x y = -1) ∨ (x = y ∧ cmpV x y = 0) ∨ (vlt y x ∧ cmpV x y = 1) := by
  unfold cmpV vlt
  have e : firstNZ [cmpI x.a y.a, cmpI x.b y.b, cmpI x.time y.time, cmpB x.same y.same] = if cmpI x.a y.a = 0 then if cmpI x.b y.b = 0 then if cmpI x.time y.time = 0 then cmpB x.same y.same else cmpI x.time y.time else cmpI x.b y.b else cmpI x.a y.a := by
    simp only [firstNZ]
    by_cases h1 : cmpI x.a y.a = 0 <;> by_cases h2 : cmpI x.b y.b = 0 <;> by_cases h3 : cmpI x.time y.time = 0 <;> by_cases h4 : cmpB x.same y.same = 0 <;> simp [h1, h2, h3, h4]
  rw [e]
  rcases cmpI_cases x.a y.a with ⟨h1, k1⟩ | ⟨h1, k1⟩ | ⟨h1, k1⟩
  · left; rw [k1]; exact ⟨.inl h1, rfl⟩
  · rw [k1, if_pos rfl]
    rcases cmpI_cases x.b y.b with ⟨h2, k2⟩ | ⟨h2, k2⟩ | ⟨h2, k2⟩
    · left; rw [k2]; exact ⟨.inr ⟨h1, .inl h2⟩, rfl⟩
    · rw [k2, if_pos rfl]
      rcases cmpI_cases x.time y.time with ⟨h3, k3⟩ | ⟨h3, k3⟩ | ⟨h3, k3⟩
      · left; rw [k3]; exact ⟨.inr ⟨h1, .inr ⟨h2, .inl h3⟩⟩, rfl⟩
      · rw [k3, if_pos rfl]
        obtain ⟨xa, xb, xs, xt⟩ := x
        obtain ⟨ya, yb, ys, yt⟩ := y
        simp only at h1 h2 h3 ⊢
        subst h1; subst h2; subst h3
        cases xs <;> cases ys <;> simp [cmpB]
      · right; right; rw [k3]; exact ⟨.inr ⟨h1.symm, .inr ⟨h2.symm, .inl h3⟩⟩, rfl⟩
    · right; right; rw [k2]; exact ⟨.inr ⟨h1.symm, .inl h2⟩, rfl⟩
  · right; right; rw [k1]; exact ⟨.inl h1, rfl⟩
theorem vlt_irr (x : Verdict) : ¬ vlt x x := by
  unfold vlt
  cases x.same <;> simp
theorem vlt_trans {x y z : Verdict} (h : vlt x y) (k : vlt y z) : vlt x z := by
  unfold vlt at *
  rcases h with h | ⟨h1, h | ⟨h2, h | ⟨h3, h4, h5⟩⟩⟩ <;> rcases k with k | ⟨k1, k | ⟨k2, k | ⟨k3, k4, k5⟩⟩⟩
  all_goals first
    | (left; omega)
    | (right; refine ⟨by omega, ?_⟩; left; omega)
    | (right; refine ⟨by omega, ?_⟩; right; refine ⟨by omega, ?_⟩; left; omega)
    | (rw [h5] at k4; cases k4)
theorem cmpV_lt {x y : Verdict} : cmpV x y < 0 ↔ vlt x y := by
  rcases cmpV_cases x y with ⟨h, k⟩ | ⟨h, k⟩ | ⟨h, k⟩
  · rw [k]; exact ⟨fun _ => h, fun _ => by decide⟩
  · rw [k, h]; exact ⟨fun e => by omega, fun e => absurd e (vlt_irr _)⟩
  · rw [k]; exact ⟨fun e => by omega, fun e => absurd (vlt_trans e h) (vlt_irr _)⟩
theorem cmpV_zero {x y : Verdict} : cmpV x y = 0 ↔ x = y := by
  rcases cmpV_cases x y with ⟨h, k⟩ | ⟨h, k⟩ | ⟨h, k⟩
  · rw [k]; exact ⟨fun e => by omega, fun e => absurd (e ▸ h) (vlt_irr _)⟩
  · exact ⟨fun _ => h, fun _ => k⟩
  · rw [k]; exact ⟨fun e => by omega, fun e => absurd (e ▸ h) (vlt_irr _)⟩
theorem vlt_tri (x y : Verdict) : vlt x y ∨ x = y ∨ vlt y x := by
  rcases cmpV_cases x y with ⟨h, k⟩ | ⟨h, k⟩ | ⟨h, k⟩
  · exact .inl h
  · exact .inr (.inl h)
  · exact .inr (.inr h)
/-- ascending -/
def Asc (xs : List Verdict) : Prop := ∀ i j (hi : i < xs.length) (hj : j < xs.length), i < j → vlt xs[i] xs[j]
theorem areVers_asc {xs : List Verdict} (h : areVers xs = true) : Asc xs ∧ (∀ x ∈ xs, okV x = true) ∧ xs.length ≤ 8 := by
  unfold areVers at h
  rw [Bool.and_eq_true, decide_eq_true_eq] at h
  have hv : ∀ k (hk : k < xs.length), (okV xs[k] && (k == 0 || decide (cmpV (vAt xs (k - 1)) xs[k] < 0))) = true := fun k hk => by
    rw [← verAt_eq hk]
    exact List.all_eq_true.1 h.1 k (List.mem_range.2 hk)
  refine ⟨?_, fun x hx => ?_, h.2⟩
  · have step : ∀ k (hk : k + 1 < xs.length), vlt xs[k] xs[k + 1] := fun k hk => by
      have h1 := hv (k + 1) hk
      rw [Bool.and_eq_true, Bool.or_eq_true, decide_eq_true_eq] at h1
      rcases h1.2 with h2 | h2
      · simp at h2
      · have e : vAt xs (k + 1 - 1) = xs[k] := vAt_at (by omega)
        rw [e] at h2
        exact cmpV_lt.1 h2
    intro i j hi hj hij
    induction j with
    | zero => omega
    | succ j ih =>
      by_cases e : i = j
      · subst e; exact step i hj
      · exact vlt_trans (ih (by omega) (by omega)) (step j hj)
  · obtain ⟨k, hk, rfl⟩ := List.getElem_of_mem hx
    have h1 := hv k hk
    rw [Bool.and_eq_true] at h1
    exact h1.1
theorem asc_areVers {xs : List Verdict} (h : Asc xs) (h2 : ∀ x ∈ xs, okV x = true) (h3 : xs.length ≤ 8) : areVers xs = true := by
  unfold areVers
  rw [Bool.and_eq_true, decide_eq_true_eq]
  refine ⟨List.all_eq_true.2 fun k hk => ?_, h3⟩
  have hk := List.mem_range.1 hk
  rw [verAt_eq hk, Bool.and_eq_true]
  refine ⟨h2 _ (List.getElem_mem hk), ?_⟩
  rw [Bool.or_eq_true, decide_eq_true_eq]
  cases k with
  | zero => left; rfl
  | succ k =>
    right
    have e : vAt xs (k + 1 - 1) = xs[k] := vAt_at (by omega)
    rw [e]
    exact cmpV_lt.2 (h k (k + 1) (by omega) hk (by omega))
/-- how many stand ahead of v -/
def cntV (xs : List Verdict) (v : Verdict) : Nat := (xs.takeWhile fun x => decide (cmpV x v < 0)).length
theorem cntV_le (xs : List Verdict) (v : Verdict) : cntV xs v ≤ xs.length := by
  unfold cntV
  exact (List.takeWhile_prefix _).length_le
theorem cntV_lt {xs : List Verdict} {v : Verdict} {k : Nat} (hk : k < cntV xs v) (h : k < xs.length) : cmpV xs[k] v < 0 := by
  have hp : xs.takeWhile (fun x => decide (cmpV x v < 0)) <+: xs := List.takeWhile_prefix _
  have e := hp.getElem (i := k) hk
  have hm : (xs.takeWhile fun x => decide (cmpV x v < 0))[k]'hk ∈ xs.takeWhile fun x => decide (cmpV x v < 0) := List.getElem_mem hk
  have hall := List.all_takeWhile (p := fun x => decide (cmpV x v < 0)) (l := xs)
  have := List.all_eq_true.1 hall _ hm
  rw [decide_eq_true_eq, e] at this
  exact this
theorem cntV_at : ∀ {xs : List Verdict} {v : Verdict} (h : cntV xs v < xs.length), ¬ cmpV xs[cntV xs v] v < 0
  | x :: xs, v, h => by
    unfold cntV at h ⊢
    by_cases hx : cmpV x v < 0
    · simp only [List.takeWhile_cons, hx, decide_true, if_true, List.length_cons, List.getElem_cons_succ] at h ⊢
      exact cntV_at (xs := xs) (v := v) (by unfold cntV; omega)
    · simp only [List.takeWhile_cons, hx, decide_false, Bool.false_eq_true, if_false, List.length_nil, List.getElem_cons_zero]
      first | exact hx | exact fun h => h
theorem asc_side {xs : List Verdict} (h : Asc xs) {v : Verdict} {k : Nat} (hk : k < xs.length) : cmpV xs[k] v < 0 ↔ k < cntV xs v := by
  refine ⟨fun hc => ?_, fun hc => cntV_lt hc hk⟩
  apply Classical.byContradiction
  intro hn
  have hlt : cntV xs v < xs.length := by omega
  have h1 := cntV_at hlt
  apply h1
  by_cases e : cntV xs v = k
  · have : xs[cntV xs v] = xs[k] := by congr
    rw [this]; exact hc
  · exact cmpV_lt.2 (vlt_trans (h _ _ hlt hk (by omega)) (cmpV_lt.1 hc))
theorem asc_found {xs : List Verdict} (h : Asc xs) {v : Verdict} : v ∈ xs ↔ ∃ hk : cntV xs v < xs.length, cmpV (xs[cntV xs v]) v = 0 := by
  refine ⟨fun hm => ?_, fun ⟨hk, e⟩ => ?_⟩
  · obtain ⟨k, hk, e⟩ := List.getElem_of_mem hm
    have h1 : ¬ k < cntV xs v := fun hc => by
      have := (asc_side h hk).2 hc
      rw [e] at this
      have := cmpV_zero (x := v) (y := v) |>.2 rfl
      omega
    have hlt : cntV xs v < xs.length := by omega
    refine ⟨hlt, ?_⟩
    by_cases e2 : cntV xs v = k
    · have : xs[cntV xs v] = xs[k] := by congr
      rw [this, e]; exact cmpV_zero.2 rfl
    · have h2 := h _ _ hlt hk (by omega)
      rw [e] at h2
      exact absurd (cmpV_lt.2 h2) (cntV_at hlt)
  · have hm := List.getElem_mem (l := xs) hk
    rwa [cmpV_zero.1 e] at hm
theorem asc_pw {xs : List Verdict} : Asc xs ↔ xs.Pairwise vlt := by
  rw [List.pairwise_iff_getElem]; exact Iff.rfl
/-- v at its place -/
def putV (xs : List Verdict) (v : Verdict) : List Verdict := xs.take (cntV xs v) ++ v :: xs.drop (cntV xs v)
end Go.Proofs.YtblggajfdhjmjaaDoor

namespace Go.Proofs.YtblggajfdhjmjaaDoor
open Go.RowKit

set_option maxHeartbeats 400000 in
set_option maxRecDepth 100000 in
theorem spec_CurrentVerdicts (v : Value) (xs : List Verdict) (w : World) (h : Sl verdictR w v xs) :
    Calls Tryd.prog 12 #[v] w fun e w2 => ∃ v2 F, e = .returned v2 ∧ OwnSl verdictO w2 v2 (curV xs) F ∧ NewF w F ∧ Ext w w2 := by
  obtain ⟨A, cap, rfl, hm⟩ := h.form
  go_enter Tryd.func12, Tryd.ntmps12
  go_wp2_with fail
  go_loopw [3, 4] (fun t i wr => ∃ (k : Nat) (out : List Verdict), k ≤ xs.length ∧ i = .int .i64 k ∧ Bld verdictO wr w.heap.size 26 t out [] ∧ out = (xs.take k).foldl curStep [] ∧ (0 < k → areVers xs = true) ∧ Ext w wr) (fun _ i _ => xs.length - (intOf i).toNat)
  case atStart => exact ⟨0, [], Nat.zero_le _, rfl, Bld.lit w (Nat.le_refl _) _, rfl, fun h0 => by omega, (Ext.refl _).alloc _⟩
  case round =>
    obtain ⟨k, out, hk, rfl, hB, ho, hpos, hx⟩ := hrel
    have HO := hid ho
    have HP := hid hpos
    clear ho hpos
    by_cases hlt : k < xs.length
    · have HST := hid (cur_step xs k hlt)
      have hol : out.length ≤ k := by rw [HO.out]; exact cur_len xs k hk
      obtain ⟨A9, cap9, e9, _⟩ := hB.sl.form
      obtain ⟨n9, hn9⟩ : ∃ n, n = out.length := ⟨_, rfl⟩
      rw [← hn9] at e9
      subst e9
      go_wp2_with fail
      refine (spec_AreVerdicts _ xs _ (h.mono hx)).mono ?_
      rintro e w2 ⟨rfl, x2⟩
      by_cases hv : areVers xs = true
      · rw [hv]
        have HV := hid hv
        have hl8 := vers_len hv
        clear hv
        have hB2 := hB.ext x2
        have hx2 := hx.trans x2
        clear hB hx x2
        obtain ⟨b, off, rfl, hok, hc0, hc1, hc2, hc3⟩ := (h.mono hx2).verdict hlt
        have HOK := hid hok
        clear hok
        rcases List.eq_nil_or_concat out with rfl | ⟨init, l, rfl⟩
        · have hn0 : n9 = 0 := by simpa using hn9
          subst hn0
          clear hn9
          go_wp2_with fail
          refine wp_region_ext (by kernel_rfl) (by kernel_rfl) ?_
          repeat (go_big_quiet_step ((fail)))
          refine wpQuiet_nil ?_
          rintro w4 ⟨⟨_, x4⟩, rfl⟩
          have d0 := x4.cell hc0
          have d1 := x4.cell hc1
          have d2 := x4.cell hc2
          have d3 := x4.cell hc3
          go_wp2_with (at_builtin; refine wpList_app1 (R := verdictO) elemVer (by decide) rfl _ _ rfl (hB2.ext x4) rfl _ 1 rfl (by simp) (one_ver _ _ _ _) (y := xs[k]) ⟨⟨rfl, HOK.out⟩, rfl⟩ fresh_nil (by simp) (by decide) (Nat.le_trans hx2.size x4.size) ?_; intro v9 w9 hB9 hE9)
          go_roundw
          case rel => exact ⟨k + 1, _, by omega, by go_num, hB9, by rw [HST.out, ← HO.out]; rfl, fun _ => HV.out, hE9 w (Nat.le_refl _) (hx2.trans x4)⟩
          case measure => simp [intOf]; omega
        · rw [List.concat_eq_append] at hB2 hn9 HO hol
          obtain ⟨hn, g, eg, hg1, hg2, ⟨l0, l1, l2, l3⟩, _, _⟩ := hB2.ver_last
          subst hn
          subst eg
          clear hn9
          have hbl : (init ++ [l]).length + 1 ≤ 1099511627776 := by omega
          have hil : init.length ≤ 9223372036854775806 := by rw [List.length_append, List.length_singleton] at hol; omega
          have hne0 : ((init.length : Int) + 1 == 0) = false := by simp; omega
          have y0 : ∀ z : ExtOf w2, z.1.cell? ⟨b, off + k * 4, none⟩ = _ := fun z => z.2.cell hc0
          have y1 : ∀ z : ExtOf w2, z.1.cell? ⟨b, off + k * 4 + 1, none⟩ = _ := fun z => z.2.cell hc1
          have z0 : ∀ z : ExtOf w2, z.1.cell? ⟨g, init.length * 4, none⟩ = _ := fun z => z.2.cell l0
          have z1 : ∀ z : ExtOf w2, z.1.cell? ⟨g, init.length * 4 + 1, none⟩ = _ := fun z => z.2.cell l1
          by_cases ha : l.a = xs[k].a
          · have ha1 : (l.a != xs[k].a) = false := by simp [ha]
            by_cases hb : l.b = xs[k].b
            · have hb1 : (l.b != xs[k].b) = false := by simp [hb]
              have HA := hid ha
              have HB := hid hb
              clear ha hb
              go_wp2_with fail
              refine wp_region_ext (by kernel_rfl) (by kernel_rfl) ?_
              repeat (go_big_quiet_step ((fail)))
              refine wpQuiet_nil ?_
              rintro w4 ⟨⟨_, x4⟩, rfl⟩
              have u3 : ∀ z : ExtOf w4, z.1.cell? ⟨b, off + k * 4 + 3, none⟩ = _ := fun z => (x4.trans z.2).cell hc3
              have t3 : ∀ z : ExtOf w4, z.1.cell? ⟨g, init.length * 4 + 3, none⟩ = _ := fun z => (x4.trans z.2).cell l3
              by_cases ht : l.time < xs[k].time
              · go_wp2_with fail
                refine wp_region_ext (by kernel_rfl) (by kernel_rfl) ?_
                repeat (go_big_quiet_step ((fail)))
                refine wpQuiet_nil ?_
                rintro w5 ⟨⟨_, x5⟩, rfl⟩
                have x6 := x4.trans x5
                have d0 := x6.cell hc0
                have d1 := x6.cell hc1
                have d2 := x6.cell hc2
                have d3 := x6.cell hc3
                obtain ⟨_, g', eg', _, _, ⟨q0, q1, q2, q3⟩, hfr, hset⟩ := (hB2.ext x6).ver_last
                injection eg' with eg'
                injection eg' with eg1 eg2 eg3
                subst eg1
                have hnew := hset xs[k] HOK.out
                have HNEW := hid hnew
                have hxn : Ext w ((((w5.setCell ⟨g, init.length * 4, none⟩ (.int .i64 xs[k].a)).setCell ⟨g, init.length * 4 + 1, none⟩ (.int .i64 xs[k].b)).setCell ⟨g, init.length * 4 + 2, none⟩ (.bool xs[k].same)).setCell ⟨g, init.length * 4 + 3, none⟩ (.int .i64 xs[k].time)) :=
                  ((((hx2.trans x6).setCell hg1 _).setCell hg1 _).setCell hg1 _).setCell hg1 _
                have HXN := hid hxn
                clear hset hnew hxn hB2
                go_wp2
                go_roundw
                case rel => exact ⟨k + 1, _, by omega, by go_num, HNEW.out, by rw [HST.out, ← HO.out, curStep_set HA.out HB.out ht], fun _ => HV.out, HXN.out⟩
                case measure => simp [intOf]; omega
              · go_wp2_with fail
                refine wp_region_ext (by kernel_rfl) (by kernel_rfl) ?_
                repeat (go_big_quiet_step ((fail)))
                refine wpQuiet_nil ?_
                rintro w5 ⟨⟨_, x5⟩, rfl⟩
                go_wp2
                go_roundw
                case rel => exact ⟨k + 1, _, by omega, by go_num, hB2.ext (x4.trans x5), by rw [HST.out, ← HO.out, curStep_old HA.out HB.out (by omega)], fun _ => HV.out, hx2.trans (x4.trans x5)⟩
                case measure => simp [intOf]; omega
            · have hb1 : (l.b != xs[k].b) = true := by simp [hb]
              have HB := hid hb
              clear ha hb
              go_wp2_with fail
              refine wp_region_ext (by kernel_rfl) (by kernel_rfl) ?_
              repeat (go_big_quiet_step ((fail)))
              refine wpQuiet_nil ?_
              rintro w4 ⟨⟨_, x4⟩, rfl⟩
              have d0 := x4.cell hc0
              have d1 := x4.cell hc1
              have d2 := x4.cell hc2
              have d3 := x4.cell hc3
              go_wp2_with (at_builtin; refine wpList_app1 (R := verdictO) elemVer (by decide) rfl _ _ rfl (hB2.ext x4) rfl _ 1 rfl (by simp) (one_ver _ _ _ _) (y := xs[k]) ⟨⟨rfl, HOK.out⟩, rfl⟩ fresh_nil (hbl) (by decide) (Nat.le_trans hx2.size x4.size) ?_; intro v9 w9 hB9 hE9)
              go_roundw
              case rel => exact ⟨k + 1, _, by omega, by go_num, hB9, by rw [HST.out, ← HO.out, curStep_new fun h9 => HB.out h9.2], fun _ => HV.out, hE9 w (Nat.le_refl _) (hx2.trans x4)⟩
              case measure => simp [intOf]; omega
          · have ha1 : (l.a != xs[k].a) = true := by simp [ha]
            have HA := hid ha
            clear ha
            go_wp2_with fail
            refine wp_region_ext (by kernel_rfl) (by kernel_rfl) ?_
            repeat (go_big_quiet_step ((fail)))
            refine wpQuiet_nil ?_
            rintro w4 ⟨⟨_, x4⟩, rfl⟩
            have d0 := x4.cell hc0
            have d1 := x4.cell hc1
            have d2 := x4.cell hc2
            have d3 := x4.cell hc3
            go_wp2_with (at_builtin; refine wpList_app1 (R := verdictO) elemVer (by decide) rfl _ _ rfl (hB2.ext x4) rfl _ 1 rfl (by simp) (one_ver _ _ _ _) (y := xs[k]) ⟨⟨rfl, HOK.out⟩, rfl⟩ fresh_nil (hbl) (by decide) (Nat.le_trans hx2.size x4.size) ?_; intro v9 w9 hB9 hE9)
            go_roundw
            case rel => exact ⟨k + 1, _, by omega, by go_num, hB9, by rw [HST.out, ← HO.out, curStep_new fun h9 => HA.out h9.1], fun _ => HV.out, hE9 w (Nat.le_refl _) (hx2.trans x4)⟩
            case measure => simp [intOf]; omega
      · have hv' : areVers xs = false := by simpa using hv
        rw [hv']
        have hk0 : k = 0 := by
          by_cases h0 : 0 < k
          · exact absurd (HP.out h0) hv
          · omega
        have hout : out = [] := by rw [HO.out, hk0]; rfl
        subst hout
        have hn0 : n9 = 0 := by simpa using hn9
        subst hn0
        clear hn9
        have HD := hid (show curV xs = [] by unfold curV; rw [hv']; rfl)
        clear hv hv' hk0
        obtain ⟨F', d1, d2, d3⟩ := (hB.ext x2).done
        go_wp2
        go_ret
        exact ⟨_, F', rfl, by rw [HD.out]; exact d1, ⟨d2, d3⟩, hx.trans x2⟩
    · have HR : curV xs = out := by
        rw [HO.out, List.take_of_length_le (by omega)]
        unfold curV
        by_cases h0 : 0 < k
        · rw [HP.out h0]; rfl
        · have : xs = [] := List.eq_nil_of_length_eq_zero (by omega)
          subst this; split <;> rfl
      have HRR := hid HR
      clear HR
      obtain ⟨F', d1, d2, d3⟩ := hB.done
      go_wp2
      go_ret
      exact ⟨_, F', rfl, by rw [HRR.out]; exact d1, ⟨d2, d3⟩, hx⟩

set_option maxHeartbeats 400000 in
set_option maxRecDepth 100000 in
theorem impl_CurrentVerdicts (v : Value) (xs : List Verdict) (w : World) (h : Sl verdictR w v xs) :
    Calls Tryd.prog 11 #[v] w fun e w2 => ∃ v2 F, e = .returned v2 ∧ OwnSl verdictO w2 v2 (curV xs) F ∧ NewF w F ∧ Ext w w2 := by
  obtain ⟨A, cap, rfl, hm⟩ := h.form
  have HN := hid (show ∀ W : World, OwnSl verdictO W (.slice none 0 0) [] [] from fun W => .inl ⟨rfl, rfl, none, 0, rfl, Nat.zero_le _⟩)
  go_enter Tryd.func11, Tryd.ntmps11
  go_wp2_with fail
  refine (impl_AreVerdicts _ xs _ h).mono ?_
  rintro e w1 ⟨rfl, x1⟩
  by_cases hv : areVers xs = true
  · rw [hv]
    have HV := hid hv
    have hl8 := vers_len hv
    clear hv
    go_wp2_with fail
    go_loopw [3, 12] (fun t i wr => ∃ (k : Nat) (out : List Verdict), k ≤ xs.length ∧ i = .int .i64 k ∧ Bld verdictO wr w.heap.size 26 t out [] ∧ out = (xs.take k).foldl curStep [] ∧ Ext w wr) (fun _ i _ => xs.length - (intOf i).toNat)
    case atStart => exact ⟨0, [], Nat.zero_le _, rfl, Bld.nil w1 _ _, rfl, x1⟩
    case round =>
      obtain ⟨k, out, hk, rfl, hB, ho, hx⟩ := hrel
      have HO := hid ho
      clear ho
      by_cases hlt : k < xs.length
      · have HST := hid (cur_step xs k hlt)
        have hol : out.length ≤ k := by rw [HO.out]; exact cur_len xs k hk
        obtain ⟨A9, cap9, e9, _⟩ := hB.sl.form
        obtain ⟨n9, hn9⟩ : ∃ n, n = out.length := ⟨_, rfl⟩
        rw [← hn9] at e9
        subst e9
        obtain ⟨b, off, rfl, hok, hc0, hc1, hc2, hc3⟩ := (h.mono hx).verdict hlt
        have HOK := hid hok
        clear hok
        have xb : Ext wr (wr.alloc (.cells #[.int .i64 xs[k].a, .int .i64 xs[k].b, .bool xs[k].same, .int .i64 xs[k].time] 26)) := (Ext.refl _).alloc _
        have HBX := hid (show ∀ W, Ext (wr.alloc (.cells #[.int .i64 xs[k].a, .int .i64 xs[k].b, .bool xs[k].same, .int .i64 xs[k].time] 26)) W → W.cell? ⟨wr.heap.size, 0, none⟩ = some (.int .i64 xs[k].a) ∧ W.cell? ⟨wr.heap.size, 1, none⟩ = some (.int .i64 xs[k].b) ∧ W.cell? ⟨wr.heap.size, 2, none⟩ = some (.bool xs[k].same) ∧ W.cell? ⟨wr.heap.size, 3, none⟩ = some (.int .i64 xs[k].time) from fun W z => ⟨z.box.1 0, z.box.1 1, z.box.1 2, z.box.1 3⟩)
        rcases List.eq_nil_or_concat out with rfl | ⟨init, l, rfl⟩
        · have hn0 : n9 = 0 := by simpa using hn9
          subst hn0
          clear hn9
          go_wp2_with fail
          refine wp_region_ext (by kernel_rfl) (by kernel_rfl) ?_
          repeat (go_big_quiet_step ((fail)))
          refine wpQuiet_nil ?_
          rintro w4 ⟨⟨_, x4⟩, rfl⟩
          obtain ⟨d0, d1, d2, d3⟩ := HBX.out _ x4
          have x5 := xb.trans x4
          go_wp2_with (at_builtin; refine wpList_app1 (R := verdictO) elemVer (by decide) rfl _ _ rfl (hB.ext x5) rfl _ 1 rfl (by simp) (one_ver _ _ _ _) (y := xs[k]) ⟨⟨rfl, HOK.out⟩, rfl⟩ fresh_nil (by simp) (by decide) (Nat.le_trans hx.size x5.size) ?_; intro v9 w9 hB9 hE9)
          go_roundw
          case rel => exact ⟨k + 1, _, by omega, by go_num, hB9, by rw [HST.out, ← HO.out]; rfl, hE9 w (Nat.le_refl _) (hx.trans x5)⟩
          case measure => simp [intOf]; omega
        · rw [List.concat_eq_append] at hB hn9 HO hol
          obtain ⟨hn, g, eg, hg1, hg2, ⟨l0, l1, l2, l3⟩, _, _⟩ := hB.ver_last
          subst hn
          subst eg
          clear hn9
          have hbl : (init ++ [l]).length + 1 ≤ 1099511627776 := by omega
          have hil : init.length ≤ 9223372036854775806 := by rw [List.length_append, List.length_singleton] at hol; omega
          have hng : decide ((init.length : Int) < 0) = false := by simp
          have y0 : ∀ z : ExtOf (wr.alloc (.cells #[.int .i64 xs[k].a, .int .i64 xs[k].b, .bool xs[k].same, .int .i64 xs[k].time] 26)), z.1.cell? ⟨wr.heap.size, 0, none⟩ = some (.int .i64 xs[k].a) ∧ z.1.cell? ⟨wr.heap.size, 1, none⟩ = some (.int .i64 xs[k].b) := fun z => ⟨(HBX.out _ z.2).1, (HBX.out _ z.2).2.1⟩
          have z0 : ∀ z : ExtOf (wr.alloc (.cells #[.int .i64 xs[k].a, .int .i64 xs[k].b, .bool xs[k].same, .int .i64 xs[k].time] 26)), z.1.cell? ⟨g, init.length * 4, none⟩ = _ := fun z => (xb.trans z.2).cell l0
          have z1 : ∀ z : ExtOf (wr.alloc (.cells #[.int .i64 xs[k].a, .int .i64 xs[k].b, .bool xs[k].same, .int .i64 xs[k].time] 26)), z.1.cell? ⟨g, init.length * 4 + 1, none⟩ = _ := fun z => (xb.trans z.2).cell l1
          by_cases ha : l.a = xs[k].a
          · have ha1 : (l.a != xs[k].a) = false := by simp [ha]
            by_cases hb : l.b = xs[k].b
            · have hb1 : (l.b != xs[k].b) = false := by simp [hb]
              have HA := hid ha
              have HB := hid hb
              clear ha hb
              go_wp2_with fail
              refine wp_region_ext (by kernel_rfl) (by kernel_rfl) ?_
              repeat (go_big_quiet_step ((fail)))
              refine wpQuiet_nil ?_
              rintro w4 ⟨⟨_, x4⟩, rfl⟩
              have u3 : ∀ z : ExtOf w4, z.1.cell? ⟨wr.heap.size, 3, none⟩ = some (.int .i64 xs[k].time) := fun z => (HBX.out _ (x4.trans z.2)).2.2.2
              have t3 : ∀ z : ExtOf w4, z.1.cell? ⟨g, init.length * 4 + 3, none⟩ = _ := fun z => (xb.trans (x4.trans z.2)).cell l3
              by_cases ht : l.time < xs[k].time
              · go_wp2_with fail
                refine wp_region_ext (by kernel_rfl) (by kernel_rfl) ?_
                repeat (go_big_quiet_step ((fail)))
                refine wpQuiet_nil ?_
                rintro w5 ⟨⟨_, x5⟩, rfl⟩
                obtain ⟨d0, d1, d2, d3⟩ := HBX.out _ (x4.trans x5)
                have x6 := xb.trans (x4.trans x5)
                obtain ⟨_, g', eg', _, _, ⟨q0, q1, q2, q3⟩, hfr, hset⟩ := (hB.ext x6).ver_last
                injection eg' with eg'
                injection eg' with eg1 eg2 eg3
                subst eg1
                have hnew := hset xs[k] HOK.out
                have HNEW := hid hnew
                have hxn : Ext w ((((w5.setCell ⟨g, init.length * 4, none⟩ (.int .i64 xs[k].a)).setCell ⟨g, init.length * 4 + 1, none⟩ (.int .i64 xs[k].b)).setCell ⟨g, init.length * 4 + 2, none⟩ (.bool xs[k].same)).setCell ⟨g, init.length * 4 + 3, none⟩ (.int .i64 xs[k].time)) :=
                  ((((hx.trans x6).setCell hg1 _).setCell hg1 _).setCell hg1 _).setCell hg1 _
                have HXN := hid hxn
                clear hset hnew hxn hB
                go_wp2
                go_roundw
                case rel => exact ⟨k + 1, _, by omega, by go_num, HNEW.out, by rw [HST.out, ← HO.out, curStep_set HA.out HB.out ht], HXN.out⟩
                case measure => simp [intOf]; omega
              · go_wp2_with fail
                refine wp_region_ext (by kernel_rfl) (by kernel_rfl) ?_
                repeat (go_big_quiet_step ((fail)))
                refine wpQuiet_nil ?_
                rintro w5 ⟨⟨_, x5⟩, rfl⟩
                go_wp2
                go_roundw
                case rel => exact ⟨k + 1, _, by omega, by go_num, hB.ext (xb.trans (x4.trans x5)), by rw [HST.out, ← HO.out, curStep_old HA.out HB.out (by omega)], hx.trans (xb.trans (x4.trans x5))⟩
                case measure => simp [intOf]; omega
            · have hb1 : (l.b != xs[k].b) = true := by simp [hb]
              have HB := hid hb
              clear ha hb
              go_wp2_with fail
              refine wp_region_ext (by kernel_rfl) (by kernel_rfl) ?_
              repeat (go_big_quiet_step ((fail)))
              refine wpQuiet_nil ?_
              rintro w4 ⟨⟨_, x4⟩, rfl⟩
              obtain ⟨d0, d1, d2, d3⟩ := HBX.out _ x4
              have x5 := xb.trans x4
              go_wp2_with (at_builtin; refine wpList_app1 (R := verdictO) elemVer (by decide) rfl _ _ rfl (hB.ext x5) rfl _ 1 rfl (by simp) (one_ver _ _ _ _) (y := xs[k]) ⟨⟨rfl, HOK.out⟩, rfl⟩ fresh_nil (hbl) (by decide) (Nat.le_trans hx.size x5.size) ?_; intro v9 w9 hB9 hE9)
              go_roundw
              case rel => exact ⟨k + 1, _, by omega, by go_num, hB9, by rw [HST.out, ← HO.out, curStep_new fun h9 => HB.out h9.2], hE9 w (Nat.le_refl _) (hx.trans x5)⟩
              case measure => simp [intOf]; omega
          · have ha1 : (l.a != xs[k].a) = true := by simp [ha]
            have HA := hid ha
            clear ha
            go_wp2_with fail
            refine wp_region_ext (by kernel_rfl) (by kernel_rfl) ?_
            repeat (go_big_quiet_step ((fail)))
            refine wpQuiet_nil ?_
            rintro w4 ⟨⟨_, x4⟩, rfl⟩
            obtain ⟨d0, d1, d2, d3⟩ := HBX.out _ x4
            have x5 := xb.trans x4
            go_wp2_with (at_builtin; refine wpList_app1 (R := verdictO) elemVer (by decide) rfl _ _ rfl (hB.ext x5) rfl _ 1 rfl (by simp) (one_ver _ _ _ _) (y := xs[k]) ⟨⟨rfl, HOK.out⟩, rfl⟩ fresh_nil (hbl) (by decide) (Nat.le_trans hx.size x5.size) ?_; intro v9 w9 hB9 hE9)
            go_roundw
            case rel => exact ⟨k + 1, _, by omega, by go_num, hB9, by rw [HST.out, ← HO.out, curStep_new fun h9 => HA.out h9.1], hE9 w (Nat.le_refl _) (hx.trans x5)⟩
            case measure => simp [intOf]; omega
      · have HR := hid (show curV xs = out by rw [HO.out, List.take_of_length_le (by omega)]; unfold curV; rw [HV.out]; rfl)
        obtain ⟨F', d1, d2, d3⟩ := hB.done
        go_wp2
        go_ret
        exact ⟨_, F', rfl, by rw [HR.out]; exact d1, ⟨d2, d3⟩, hx⟩
  · have hv' : areVers xs = false := by simpa using hv
    rw [hv']
    have HD := hid (show curV xs = [] by unfold curV; rw [hv']; rfl)
    clear hv hv'
    go_wp2
    go_ret
    first | exact ⟨_, [], rfl, by rw [HD.out]; exact HN.out _, .nil _, x1⟩ | exact ⟨_, rfl, [], by rw [HD.out]; exact HN.out _, .nil _, x1⟩
end Go.Proofs.YtblggajfdhjmjaaDoor

namespace Go.Proofs.YtblggajfdhjmjaaDoor
open Go.RowKit

set_option maxHeartbeats 400000 in
set_option maxRecDepth 20000 in
theorem slices_Clone_v (v : Value) (xs : List Verdict) (w : World) (h : Sl verdictR w v xs) (hl : xs.length ≤ 1048576) :
    Calls Tryd.prog 20 #[v] w fun e w2 => ∃ v2 F, e = .returned v2 ∧ OwnSl verdictO w2 v2 xs F ∧ NewF w F ∧ Ext w w2 := by
  obtain ⟨A, cap, rfl, hm⟩ := h.form
  have q := fun (W : World) (a : Option Addr) (n c n' c' : Nat) => Lib.run_eql_slice_nil (P := Tryd.prog) W 24 26 a n c n' c' Tryd.underlying24
  cases A with
  | none =>
    have h0 : xs = [] := by
      cases xs with
      | nil => rfl
      | cons y ys =>
        obtain ⟨_, _, _, e, _⟩ := h.at_ (show 0 < (y :: ys).length by simp)
        cases e
    subst h0
    go_enter Tryd.func20, Tryd.ntmps20
    go_wp2
    go_ret
    exact ⟨_, [], rfl, .inl ⟨rfl, rfl, none, 0, rfl, Nat.zero_le _⟩, .nil _, Ext.refl _⟩
  | some ad =>
    go_enter Tryd.func20, Tryd.ntmps20
    go_wp2_with (at_builtin; refine wpList_appv elemVer (by decide) rfl _ _ rfl (Bld.lit w (Nat.le_refl _) _) rfl rfl (h.mono ((Ext.refl _).alloc _)) (by simp; omega) (by simp) ?_; intro v9 w9 hB9 hE9)
    go_ret
    obtain ⟨F', d1, d2, d3⟩ := hB9.done
    exact ⟨_, F', rfl, by simpa using d1, ⟨d2, d3⟩, hE9 w (Nat.le_refl _) ((Ext.refl _).alloc _)⟩
end Go.Proofs.YtblggajfdhjmjaaDoor

namespace Go.Proofs.YtblggajfdhjmjaaDoor
open Go.RowKit

/-- is x among them? -/
noncomputable def memV (xs : List Verdict) (x : Verdict) : Bool := @decide (x ∈ xs) (Classical.propDecidable _)
theorem memV_iff (xs : List Verdict) (x : Verdict) : memV xs x = true ↔ x ∈ xs := by unfold memV; exact @decide_eq_true_iff _ (Classical.propDecidable _)

set_option maxHeartbeats 1000000 in
set_option maxRecDepth 20000 in
theorem slices_BSF_v (v : Value) (xs : List Verdict) (x : Verdict) (w : World) (h : Sl verdictR w v xs) (ha : Asc xs) (hl : xs.length ≤ 8) :
    Calls Tryd.prog 22 #[v, .agg #[.int .i64 x.a, .int .i64 x.b, .bool x.same, .int .i64 x.time], .func (.func 16) #[] #[]] w fun e w2 =>
      e = .returned (.tuple #[.int .i64 (cntV xs x), .bool (memV xs x)]) ∧ Ext w w2 := by
  obtain ⟨A, cap, rfl, hm⟩ := h.form
  have HA := hid (fun k (hk : k < xs.length) => asc_side ha hk (v := x))
  have HF := hid (asc_found ha (v := x))
  have hcl := cntV_le xs x
  obtain ⟨cnt, hcnt⟩ : ∃ cnt, cnt = cntV xs x := ⟨_, rfl⟩
  have HC := hid hcnt
  rw [← hcnt] at hcl ⊢
  obtain ⟨fd, hfd⟩ : ∃ fd, fd = memV xs x := ⟨_, rfl⟩
  have HD := hid hfd
  rw [← hfd]
  clear ha hcnt hfd
  go_enter Tryd.func22, Tryd.ntmps22
  go_wp2
  go_loopg [9, 10] 8 (fun kx s9 s10 wr => ∃ lo hi : Nat, s9 = .int .i64 lo ∧ s10 = .int .i64 hi ∧ lo ≤ hi ∧ hi ≤ xs.length ∧ hi - lo ≤ kx ∧ lo ≤ cnt ∧ cnt ≤ hi ∧ Ext (w.alloc (.cells #[.int .i64 x.a, .int .i64 x.b, .bool x.same, .int .i64 x.time] 26)) wr)
  case atStart => exact ⟨0, xs.length, rfl, rfl, Nat.zero_le _, Nat.le_refl _, by omega, Nat.zero_le _, hcl, Ext.refl _⟩
  case round =>
    obtain ⟨lo, hi, rfl, rfl, hlh, hin, hg, h1, h2, hx⟩ := hrel
    have xw : Ext w wr := ((Ext.refl w).alloc _).trans hx
    by_cases hlt : lo < hi
    · have hmid : (lo + hi) / 2 < xs.length := by omega
      obtain ⟨b, off, rfl, hok, hc0, hc1, hc2, hc3⟩ := (h.mono xw).verdict hmid
      clear hok
      have hz0 : ∀ z : ExtOf wr, z.1.cell? ⟨b, off + ((lo + hi) / 2) * 4, none⟩ = _ := fun z => z.2.cell hc0
      have hz1 : ∀ z : ExtOf wr, z.1.cell? ⟨b, off + ((lo + hi) / 2) * 4 + 1, none⟩ = _ := fun z => z.2.cell hc1
      have hz2 : ∀ z : ExtOf wr, z.1.cell? ⟨b, off + ((lo + hi) / 2) * 4 + 2, none⟩ = _ := fun z => z.2.cell hc2
      have hz3 : ∀ z : ExtOf wr, z.1.cell? ⟨b, off + ((lo + hi) / 2) * 4 + 3, none⟩ = _ := fun z => z.2.cell hc3
      have hb0 : ∀ z : ExtOf wr, z.1.cell? ⟨w.heap.size, 0, none⟩ = some (.int .i64 x.a) := fun z => (hx.trans z.2).box.1 0
      have hb1 : ∀ z : ExtOf wr, z.1.cell? ⟨w.heap.size, 1, none⟩ = some (.int .i64 x.b) := fun z => (hx.trans z.2).box.1 1
      have hb2 : ∀ z : ExtOf wr, z.1.cell? ⟨w.heap.size, 2, none⟩ = some (.bool x.same) := fun z => (hx.trans z.2).box.1 2
      have hb3 : ∀ z : ExtOf wr, z.1.cell? ⟨w.heap.size, 3, none⟩ = some (.int .i64 x.time) := fun z => (hx.trans z.2).box.1 3
      have hs := HA.out _ hmid
      rw [← HC.out] at hs
      have h64 := (cmpV_64 xs[(lo + hi) / 2] x).out
      obtain ⟨y, hy⟩ : ∃ y, y = xs[(lo + hi) / 2] := ⟨_, rfl⟩
      rw [← hy] at hs h64 hz0 hz1 hz2 hz3
      clear hc0 hc1 hc2 hc3 hy
      by_cases hyx : cmpV y x < 0
      · have hm1 := hs.1 hyx
        clear hs
        go_wp2_with fail
        refine wp_region_ext (by kernel_rfl) (by kernel_rfl) ?_
        repeat (go_big_quiet_step ((first | (go_at_call 16; exact quiet_ext (impl_cmp y x _)))))
        refine wpQuiet_nil ?_
        rintro w4 ⟨⟨_, x4⟩, rfl⟩
        go_wp2
        go_roundg (hi - ((lo + hi) / 2 + 1))
        case measure => omega
        case rel => exact ⟨(lo + hi) / 2 + 1, hi, by rw [show ((lo : Int) + (hi : Int)) / 2 + 1 = (((lo + hi) / 2 + 1 : Nat) : Int) by omega], rfl, by omega, hin, Nat.le_refl _, by omega, h2, hx.trans x4⟩
      · have hm1 : cnt ≤ (lo + hi) / 2 := Nat.le_of_not_lt fun k => hyx (hs.2 k)
        clear hs
        go_wp2_with fail
        refine wp_region_ext (by kernel_rfl) (by kernel_rfl) ?_
        repeat (go_big_quiet_step ((first | (go_at_call 16; exact quiet_ext (impl_cmp y x _)))))
        refine wpQuiet_nil ?_
        rintro w4 ⟨⟨_, x4⟩, rfl⟩
        go_wp2
        go_roundg ((lo + hi) / 2 - lo)
        case measure => omega
        case rel => exact ⟨lo, (lo + hi) / 2, rfl, by rw [show ((lo : Int) + (hi : Int)) / 2 = (((lo + hi) / 2 : Nat) : Int) by omega], by omega, by omega, Nat.le_refl _, h1, hm1, hx.trans x4⟩
    · obtain rfl : hi = lo := by omega
      obtain rfl : cnt = hi := by omega
      by_cases hn : cnt < xs.length
      · obtain ⟨b, off, rfl, hok, hc0, hc1, hc2, hc3⟩ := (h.mono xw).verdict hn
        clear hok
        have hz0 : ∀ z : ExtOf wr, z.1.cell? ⟨b, off + cnt * 4, none⟩ = _ := fun z => z.2.cell hc0
        have hz1 : ∀ z : ExtOf wr, z.1.cell? ⟨b, off + cnt * 4 + 1, none⟩ = _ := fun z => z.2.cell hc1
        have hz2 : ∀ z : ExtOf wr, z.1.cell? ⟨b, off + cnt * 4 + 2, none⟩ = _ := fun z => z.2.cell hc2
        have hz3 : ∀ z : ExtOf wr, z.1.cell? ⟨b, off + cnt * 4 + 3, none⟩ = _ := fun z => z.2.cell hc3
        have hb0 : ∀ z : ExtOf wr, z.1.cell? ⟨w.heap.size, 0, none⟩ = some (.int .i64 x.a) := fun z => (hx.trans z.2).box.1 0
        have hb1 : ∀ z : ExtOf wr, z.1.cell? ⟨w.heap.size, 1, none⟩ = some (.int .i64 x.b) := fun z => (hx.trans z.2).box.1 1
        have hb2 : ∀ z : ExtOf wr, z.1.cell? ⟨w.heap.size, 2, none⟩ = some (.bool x.same) := fun z => (hx.trans z.2).box.1 2
        have hb3 : ∀ z : ExtOf wr, z.1.cell? ⟨w.heap.size, 3, none⟩ = some (.int .i64 x.time) := fun z => (hx.trans z.2).box.1 3
        have h64 := (cmpV_64 xs[cnt] x).out
        have hF : fd = decide (cmpV xs[cnt] x = 0) := by
          rw [HD.out]
          by_cases hm : x ∈ xs
          · obtain ⟨hk, e⟩ := HF.out.1 hm
            rw [(memV_iff _ _).2 hm]
            have : xs[cntV xs x] = xs[cnt] := by congr 1; exact HC.out.symm
            rw [← this, e]; rfl
          · have : memV xs x = false := by
              cases hb : memV xs x with
              | false => rfl
              | true => exact absurd ((memV_iff _ _).1 hb) hm
            rw [this]
            refine (decide_eq_false fun e => hm (HF.out.2 ⟨by rw [← HC.out]; exact hn, ?_⟩)).symm
            have e2 : xs[cntV xs x]'(by rw [← HC.out]; exact hn) = xs[cnt] := by congr 1; exact HC.out.symm
            rw [e2]; exact e
        obtain ⟨y, hy⟩ : ∃ y, y = xs[cnt] := ⟨_, rfl⟩
        rw [← hy] at hF h64 hz0 hz1 hz2 hz3
        have HFF := hid hF
        clear hc0 hc1 hc2 hc3 hy hF
        by_cases hyx : cmpV y x = 0
        · go_wp2_with fail
          refine wp_region_ext (by kernel_rfl) (by kernel_rfl) ?_
          repeat (go_big_quiet_step ((first | (go_at_call 16; exact quiet_ext (impl_cmp y x _)))))
          refine wpQuiet_nil ?_
          rintro w4 ⟨⟨_, x4⟩, rfl⟩
          go_wp2
          refine bodyPost_ret (v := .tuple #[.int .i64 cnt, .bool true]) (by simp [results, Tryd.results22, go_sem]) rfl ?_
          exact ⟨by rw [HFF.out, decide_eq_true hyx], xw.trans x4⟩
        · have hyx2 : (cmpV y x == 0) = false := by simp [hyx]
          go_wp2_with fail
          refine wp_region_ext (by kernel_rfl) (by kernel_rfl) ?_
          repeat (go_big_quiet_step ((first | (go_at_call 16; exact quiet_ext (impl_cmp y x _)))))
          refine wpQuiet_nil ?_
          rintro w4 ⟨⟨_, x4⟩, rfl⟩
          go_wp2
          refine bodyPost_ret (v := .tuple #[.int .i64 cnt, .bool false]) (by simp [results, Tryd.results22, go_sem]) rfl ?_
          exact ⟨by rw [HFF.out, decide_eq_false hyx], xw.trans x4⟩
      · have hF : fd = false := by
          rw [HD.out]
          cases hb : memV xs x with
          | false => rfl
          | true =>
            obtain ⟨hk, _⟩ := HF.out.1 ((memV_iff _ _).1 hb)
            rw [← HC.out] at hk; exact absurd hk hn
        have HFF := hid hF
        clear hF
        go_wp2_with fail
        refine wp_region_ext (by kernel_rfl) (by kernel_rfl) ?_
        repeat (go_big_quiet_step ((fail)))
        refine wpQuiet_nil ?_
        rintro w4 ⟨⟨_, x4⟩, rfl⟩
        go_wp2
        refine bodyPost_ret (v := .tuple #[.int .i64 cnt, .bool false]) (by simp [results, Tryd.results22, go_sem]) rfl ?_
        exact ⟨by rw [HFF.out], xw.trans x4⟩
end Go.Proofs.YtblggajfdhjmjaaDoor

namespace Go.Proofs.YtblggajfdhjmjaaDoor
open Go.RowKit

theorem Bld.empv {α : Type} {R : RepO α} {W : World} {base g : Nat} {e : TypeId} (hb : base ≤ g) (h : W.heap[g]? = some (.cells #[] e (0, 0))) : Bld R W base e (.slice (some ⟨g, 0, none⟩) 0 0) ([] : List α) [] :=
  ⟨[], ⟨by simp, .inr ⟨g, 0, #[], rfl, hb, h, Nat.le_refl _, Nat.zero_le _, by simp, by simp⟩⟩, .nil, fun _ _ h => (by cases h), List.nodup_nil, fun _ h => by cases h⟩
theorem Bld.lowv {α : Type} {R : RepO α} {w : World} {base base2 : Nat} {e : TypeId} {v : Value} {xs : List α} {F : List Nat} (h : Bld R w base e v xs F) (hb : base2 ≤ base) : Bld R w base2 e v xs F := by
  obtain ⟨cs, h1, h2, h3, h4, h5⟩ := h
  refine ⟨cs, ⟨h1.1, ?_⟩, h2, h3, h4, fun b hb2 => Nat.le_trans hb (h5 b hb2)⟩
  rcases h1.2 with h | ⟨g', cap, cur, e1, e2, e3⟩
  · exact .inl h
  · exact .inr ⟨g', cap, cur, e1, Nat.le_trans hb e2, e3⟩
theorem Sl.ver_none {w : World} {n cap : Nat} {ys : List Verdict} (h : Sl verdictR w (.slice none n cap) ys) : ys = [] := by
  cases ys with
  | nil => rfl
  | cons y ys =>
    obtain ⟨_, _, _, e, _⟩ := h.at_ (show 0 < (y :: ys).length by simp)
    cases e
theorem step_appv {P : Program} {ops : Array Oper} {o : Oper} {a : Act} {w : World} {K : Act → World → Prop} {Q : Exit → Act → World → Prop} {Z : Prop} {t e : TypeId} {bytes : Nat} (E : ElemT P t e verdictO.n bytes) (hby : bytes ≤ 128)
    (hgd : o.guard = none) (s x : Operand) (ho : o.op = .call { callee := .builtin .append, args := #[s, x], argTypes := #[t, t] })
    {base : Nat} {v : Value} {xs : List Verdict} (hb : Bld verdictO w base e v xs []) (hs : a.eval s = v) {A : Option Addr} {n k : Nat} (hx : a.eval x = .slice A n k) {ys : List Verdict} (hy : Sl verdictR w (.slice A n k) ys)
    (hbytes : xs.length + ys.length ≤ 1099511627776) (hbase : base ≤ w.heap.size) {w0 : World} (h0 : w0.heap.size ≤ base) (hx0 : Ext w0 w)
    (h : ∀ v' w', Bld verdictO w' base e v' (xs ++ ys) [] → Ext w0 w' → (∀ b, b < w.heap.size → v.ownBlock ≠ some b → w'.heap[b]? = w.heap[b]?) → K (a.put o.dst v') w') :
    if Region.wanted o (yielded ops a.tmps) = true then Oper.wp P o a w K Q else Z := by
  have hw : Region.wanted o (yielded ops a.tmps) = true := by simp [Region.wanted, hgd]
  rw [if_pos hw]
  obtain ⟨ht, i, z, hi, hz, hsize, hby2, hzs⟩ := E
  have hn : n = ys.length := hy.cap_.1
  by_cases hm : 0 < n
  · cases A with
    | none => rw [hy.ver_none] at hn; simp at hn; omega
    | some ad =>
      obtain ⟨hI, hc⟩ := hy.vers_some
      have hl := hb.lt
      obtain ⟨cs, b1, b2, b3, b4, b5⟩ := hb
      have h4 : verdictO.n = 4 := rfl
      refine wp_append_lies w s x t ho base e i z verdictO.n bytes ht hi hz hsize hby2 hzs (by decide) v xs.length cs hs b1 ad n k (ys.flatMap Verdict.cells) hx (by rw [vflat_len, hn, h4]) hc (vers_one ys) hm (by unfold maxLen; omega)
        (Nat.le_trans (Nat.mul_le_mul (show xs.length + n ≤ 1099511627776 by omega) hby) (by decide)) hbase w.heap.size rfl ?_
      intro g' cap w' hown hgr hat _
      refine h _ _ ⟨cs ++ ys.flatMap Verdict.cells, by rw [List.length_append, ← hn]; exact hown, ?_, fun _ _ hm => (by cases hm), List.nodup_nil, fun _ hm => by cases hm⟩ (hx0.grown hgr fun g hg => Nat.le_trans h0 (hl.2 g hg).2) fun b hb2 hne => hgr.block b hb2 (fun e => hne e.symm)
      have := OwnCells.append (b2.keep (w2 := w') fun b hb => by cases hb) (vers_own ys hI w')
      simpa using this
  · have hn0 : n = 0 := by omega
    subst hn0
    have hys : ys = [] := List.eq_nil_of_length_eq_zero hn.symm
    subst hys
    have hb0 := hb
    obtain ⟨cs, b1, b2⟩ := hb
    have hr : (Builtin.append_ #[t, t] o.type #[v, .slice A 0 k]).run P w = .ok v w := by
      rcases b1.2 with ⟨rfl, _⟩ | ⟨g, cap, cur, rfl, _, _, hnc, _⟩
      · cases A <;> simp [Builtin.append_, run_underlying ht, sizeOf, typeInfo, hi, Builtin.lenOf, Builtin.firstCells, storeCells, loadCells, loadCellsFrom]
      · cases A <;> simp [Builtin.append_, run_underlying ht, sizeOf, typeInfo, hi, Builtin.lenOf, Builtin.firstCells, hnc, storeCells, loadCells, loadCellsFrom]
    unfold Oper.wp execOp
    simp only [ho, resolve, invoke, builtin, Sem.run_bind, Sem.run_pure, Result.andThen_ok, List.map_toArray, List.map_cons, List.map_nil, hs, hx, hr]
    exact h v w (by rw [List.append_nil]; exact hb0) hx0 fun _ _ _ => rfl

set_option maxHeartbeats 400000 in
set_option maxRecDepth 20000 in
theorem spec_l28CopyB (v : Value) (xs : List Verdict) (w : World) (h : Sl verdictR w v xs) (hl : xs.length ≤ 1048576) :
    Calls Tryd.prog 25 #[v] w fun e w2 => ∃ v2, e = .returned v2 ∧ Bld verdictO w2 w.heap.size 26 v2 xs [] ∧ Ext w w2 := by
  obtain ⟨A, cap, rfl, hm⟩ := h.form
  go_enter Tryd.func25, Tryd.ntmps25
  go_wp2_with (at_builtin; refine wpList_appv elemVer (by decide) rfl _ _ rfl (Bld.lit w (Nat.le_refl _) _) rfl rfl (h.mono ((Ext.refl _).alloc _)) (by simp; omega) (by simp) ?_; intro v9 w9 hB9 hE9)
  go_ret
  exact ⟨_, rfl, by simpa using hB9, hE9 w (Nat.le_refl _) ((Ext.refl _).alloc _)⟩

set_option maxHeartbeats 400000 in
set_option maxRecDepth 20000 in
theorem slices_Clone_vB (v : Value) (xs : List Verdict) (w : World) (h : Sl verdictR w v xs) (hl : xs.length ≤ 1048576) :
    Calls Tryd.prog 20 #[v] w fun e w2 => ∃ v2, e = .returned v2 ∧ Bld verdictO w2 w.heap.size 26 v2 xs [] ∧ Ext w w2 := by
  obtain ⟨A, cap, rfl, hm⟩ := h.form
  have q := fun (W : World) (a : Option Addr) (n c n' c' : Nat) => Lib.run_eql_slice_nil (P := Tryd.prog) W 24 26 a n c n' c' Tryd.underlying24
  cases A with
  | none =>
    have h0 := h.ver_none
    subst h0
    go_enter Tryd.func20, Tryd.ntmps20
    go_wp2
    go_ret
    exact ⟨_, rfl, Bld.nil _ _ _, Ext.refl _⟩
  | some ad =>
    go_enter Tryd.func20, Tryd.ntmps20
    go_wp2_with (at_builtin; refine wpList_appv elemVer (by decide) rfl _ _ rfl (Bld.lit w (Nat.le_refl _) _) rfl rfl (h.mono ((Ext.refl _).alloc _)) (by simp; omega) (by simp) ?_; intro v9 w9 hB9 hE9)
    go_ret
    exact ⟨_, rfl, by simpa using hB9, hE9 w (Nat.le_refl _) ((Ext.refl _).alloc _)⟩
end Go.Proofs.YtblggajfdhjmjaaDoor

namespace Go.Proofs.YtblggajfdhjmjaaDoor
open Go.RowKit

theorem vers_flat {w : World} : ∀ {xs : List Verdict} {cs : List Value} {F : List Nat}, OwnCells verdictO w cs xs F → cs = xs.flatMap Verdict.cells ∧ (∀ x ∈ xs, x.ok) ∧ F = []
  | [], _, _, h => ⟨h.1, fun _ h => (by cases h), h.2⟩
  | x :: xs, _, _, ⟨c, d, F1, F2, h1, h2, h3, h4⟩ => by
    obtain ⟨e1, e2, e3⟩ := vers_flat h4
    obtain ⟨⟨k1, k2⟩, k3⟩ := h3
    subst e3; subst k3
    refine ⟨by rw [h1, e1, List.flatMap_cons]; exact congrArg (· ++ _) k1, fun y hy => ?_, h2⟩
    rcases List.mem_cons.1 hy with rfl | hy
    · exact k2
    · exact e2 y hy
theorem vflat_drop (xs : List Verdict) (i : Nat) : (xs.drop i).flatMap Verdict.cells = (xs.flatMap Verdict.cells).drop (i * 4) := by
  induction xs generalizing i with
  | nil => simp
  | cons x xs ih =>
    cases i with
    | zero => simp
    | succ i =>
      have h4 : x.cells.length = 4 := rfl
      rw [List.drop_succ_cons, ih, List.flatMap_cons, List.drop_append, h4, show (i + 1) * 4 - 4 = i * 4 by omega, show x.cells.drop ((i + 1) * 4) = [] from List.drop_of_length_le (by rw [h4]; omega), List.nil_append]
theorem vflat_take (xs : List Verdict) (i : Nat) : (xs.take i).flatMap Verdict.cells = (xs.flatMap Verdict.cells).take (i * 4) := by
  induction xs generalizing i with
  | nil => simp
  | cons x xs ih =>
    cases i with
    | zero => simp
    | succ i =>
      have h4 : x.cells.length = 4 := rfl
      rw [List.take_succ_cons, List.flatMap_cons, ih, List.flatMap_cons, List.take_append, h4, show (i + 1) * 4 - 4 = i * 4 by omega, show x.cells.take ((i + 1) * 4) = x.cells from List.take_of_length_le (by rw [h4]; omega)]
def zVer : List Value := [.int .i64 0, .int .i64 0, .bool false, .int .i64 0]

set_option maxHeartbeats 2000000 in
set_option maxRecDepth 20000 in
theorem slices_Delete_v (v : Value) (xs : List Verdict) (i : Nat) (base : Nat) (w : World) (h : Bld verdictO w base 26 v xs []) (hi : i < xs.length) (hl : xs.length ≤ 1048576) :
    Calls Tryd.prog 28 #[v, .int .i64 i, .int .i64 ((i : Int) + 1)] w fun e w2 => ∃ v2, e = .returned v2 ∧ Bld verdictO w2 base 26 v2 (xs.eraseIdx i) [] ∧ ∀ w0 : World, w0.heap.size ≤ base → Ext w0 w → Ext w0 w2 := by
  obtain ⟨g, cap, cur, rfl, hb, hgl, hh, hnc, hcm, hcs, hown, _, _, _⟩ := h.parts (by omega)
  have h4 : verdictO.n = 4 := rfl
  rw [h4] at hcs hown
  obtain ⟨hfl, hok, _⟩ := vers_flat hown
  obtain ⟨news, hnews⟩ : ∃ news, news = (xs.drop (i + 1)).flatMap Verdict.cells := ⟨_, rfl⟩
  have hlen : news.length = (xs.length - (i + 1)) * 4 := by rw [hnews, vflat_len, List.length_drop]
  have hcl : cur.toList.length = cap * 4 := by rw [Array.length_toList, hcs]
  have hget : ∀ (W : World), W.heap[g]? = w.heap[g]? → ∀ t u, news[t]? = some u → W.cell? ⟨g, (i + 1) * 4 + t, none⟩ = some u := fun W hW t u hu => by
    have h1 := (List.getElem?_eq_some_iff.1 hu).1
    rw [cell_of_row W g _ cur _ (0, 0) (hW.trans hh)]
    rw [hnews, vflat_drop, List.getElem?_drop, ← hfl, List.getElem?_take, if_pos (by rw [hlen] at h1; omega)] at hu
    rw [← hu]; simp
  have hone : ∀ u ∈ news, u.oneCell' = true := by rw [hnews]; exact vers_one _
  obtain ⟨i0, z0, hi0, hz0, hsz0, _, _⟩ := elemVer.info
  obtain ⟨A, hA, hsrc⟩ : ∃ A : Addr, (if cap = i + 1 then (some (⟨g, 0, none⟩ : Addr)) else some ⟨g, (i + 1) * 4, none⟩) = some A ∧ Hid (∀ t u, news[t]? = some u → w.drew.cell? (A.add t) = some u) := by
    by_cases hc : cap = i + 1
    · refine ⟨⟨g, 0, none⟩, by simp [hc], fun t u hu => ?_⟩
      have h0 : news = [] := List.eq_nil_of_length_eq_zero (by rw [hlen]; omega)
      rw [h0] at hu; simp at hu
    · exact ⟨⟨g, (i + 1) * 4, none⟩, by simp [hc], fun t u hu => by rw [add_eq]; exact hget _ rfl t u hu⟩
  have hfz : ∀ (W : World), W.heap[g]? = w.heap[g]? → ∀ k, W.frozen? ⟨g, k, none⟩ = false := fun W hW k => frozen_of_row W g k cur _ (hW.trans hh)
  have s3 : Hid (∀ t, t < news.length → (w.drew.cell? ⟨g, 0 + i * 4 + t, none⟩).isSome = true ∧ w.drew.frozen? ⟨g, 0 + i * 4 + t, none⟩ = false) := by
    intro t ht
    refine ⟨?_, hfz _ rfl _⟩
    rw [cell_of_row w.drew g _ cur _ (0, 0) hh]
    rw [hlen] at ht
    rw [Array.getElem?_eq_getElem (by omega)]; rfl
  obtain ⟨W1, hW1⟩ : ∃ W1, W1 = w.drew.setCells g (0 + i * 4) news := ⟨_, rfl⟩
  obtain ⟨n1, hn1⟩ : ∃ n1, n1 = i + (xs.length - (i + 1)) := ⟨_, rfl⟩
  have hn2 : n1 + 1 = xs.length := by omega
  have hB1 : W1.heap[g]? = some (.cells (cur.toList.take (i * 4) ++ (news ++ cur.toList.drop (i * 4 + news.length))).toArray 26 (0, 0)) := by
    rw [hW1]
    have := heap_setCells (g := g) (e := 26) news (0 + i * 4) w.drew cur hh (by rw [hlen]; omega)
    rwa [Nat.zero_add] at this ⊢
  have hcl2 : ∀ ty, (Builtin.clear_ #[24] ty #[.slice (some ⟨g, n1 * 4, none⟩) (xs.length - n1) (cap - n1)]).run Tryd.prog W1 = .ok (.tuple #[]) (W1.setCells g (n1 * 4) (List.replicate (xs.length - n1) zVer).flatten) := fun ty => by
    refine run_clear_many W1 _ 26 ty (.agg zVer.toArray) zVer Tryd.underlying24 (fun w => by kernel_rfl) rfl (by simp [zVer, Value.oneCell']) g (n1 * 4) (xs.length - n1) _ (by omega) (fun j hj => ?_) (fun j hj => frozen_of_row W1 g _ _ _ hB1)
    have h3 : zVer.length = 4 := rfl
    rw [h3] at hj
    rw [cell_of_row W1 g _ _ _ (0, 0) hB1, List.getElem?_toArray, List.getElem?_eq_getElem (by simp; omega)]
    rfl
  have HW := hid hW1
  have HN := hid hn1
  have HB1 := hid hB1
  have u1 : ¬ cap = n1 := by omega
  have u2 : n1 ≤ cap := by omega
  have u3 : (n1 : Int) ≤ (xs.length : Int) := by omega
  have u4 : n1 ≤ xs.length := by omega
  have HN2 := hid hn2
  clear hW1 hn1 hn2 hB1
  have mixed : Tryd.prog.follows .mixedOrders = true := by kernel_rfl
  have hic : i ≤ cap := by omega
  have hjc : i + 1 ≤ cap := by omega
  have hp0 : (0 : Int) ≤ (i : Int) + 1 := by omega
  have hp1 : (i : Int) + 1 ≤ (xs.length : Int) := by omega
  have HH := hid hh
  have HFL := hid hfl
  have HNW := hid hnews
  clear hh hfl hnews hget hfz hcl
  go_enter Tryd.func28, Tryd.ntmps28
  go_wp2_with fail
  go_region_law_o (refine step_append_room rfl (.tmp 22) (.tmp 25) 24 rfl 26 i0 4 Tryd.underlying24 hi0 hsz0 g 0 i cap (by simp [Act.eval, Act.put]) A (xs.length - (i + 1)) (cap - (i + 1)) news (by simp [Act.eval, Act.put]) hlen hsrc.out hone (by omega) s3.out ?_; rw [← HW.out, ← HN.out])
  clear hA hsrc s3
  go_wp2
  go_ret
  have hn1 := HN.out
  have hB1 := HB1.out
  have h3 : zVer.length = 4 := rfl
  have hz : (List.replicate (xs.length - n1) zVer).flatten.length = (xs.length - n1) * 4 := by simp [h3]
  have hsA : (cur.toList.take (i * 4) ++ (news ++ cur.toList.drop (i * 4 + news.length))).length = cap * 4 := by simp; omega
  have hB2 := heap_setCells (g := g) (e := 26) (List.replicate (xs.length - n1) zVer).flatten (n1 * 4) W1 _ hB1 (by rw [hz]; simp only [List.size_toArray, hsA]; omega)
  have htk : (cur.toList.take (i * 4) ++ (news ++ cur.toList.drop (i * 4 + news.length))).take (n1 * 4) = (xs.eraseIdx i).flatMap Verdict.cells := by
    have e1 : cur.toList.take (i * 4) = (xs.take i).flatMap Verdict.cells := by
      rw [vflat_take, ← HFL.out, List.take_take, Nat.min_eq_left (by omega)]
    have l1 : (cur.toList.take (i * 4)).length = i * 4 := by simp; omega
    rw [← List.append_assoc, List.take_append_of_le_length (by rw [List.length_append, l1, hlen]; omega), List.take_of_length_le (by rw [List.length_append, l1, hlen]; omega), e1, HNW.out, ← List.flatMap_append, List.eraseIdx_eq_take_drop_succ]
  refine ⟨_, rfl, Bld.of_parts (by rw [List.length_eraseIdx]; simp only [hi, if_true]; omega) hb hB2 (by rw [List.length_eraseIdx]; simp only [hi, if_true]; omega) hcm ?_ ?_ (by simp) List.nodup_nil (fun _ h9 => by cases h9), fun w0 h0 hx => ?_⟩
  · rw [h4]; simp only [List.size_toArray, List.length_append, List.length_take, List.length_drop, hz, hsA]; omega
  · have hle : (xs.eraseIdx i).length = n1 := by rw [List.length_eraseIdx]; simp only [hi, if_true]; omega
    rw [h4, hle, List.toList_toArray, List.take_append_of_le_length (by simp only [List.length_take, hsA, List.toList_toArray]; omega), List.toList_toArray, List.take_take, Nat.min_self, htk]
    exact vers_own _ (fun y hy => hok y (List.mem_of_mem_eraseIdx hy)) _
  · rw [HW.out]
    exact Ext.setCells (Nat.le_trans h0 hb) _ _ (Ext.setCells (Nat.le_trans h0 hb) _ _ hx.drew)
end Go.Proofs.YtblggajfdhjmjaaDoor

namespace Go.Proofs.YtblggajfdhjmjaaDoor
open Go.RowKit

set_option maxHeartbeats 4000000 in
set_option maxRecDepth 100000 in
theorem ins_shift_v (g n c i gv : Nat) (cs vs : List Value) (cur : Array Value) (w : World) (hi : i < n) (hroom : n + 1 ≤ c) (hcur : cur.size = c * 4) (hh : w.heap[g]? = some (.cells cur 26 (0, 0))) (hv : w.heap[gv]? = some (.cells vs.toArray 26 (0, 0))) (hvb : gv ≠ g) (hcs : cs = cur.toList.take (n * 4)) (hnc : n ≤ c) (hn : n ≤ 1048576) (hc63 : c ≤ 9223372036854775807)
    (hvl : vs.length = 4) (h1c : ∀ u ∈ cs, u.oneCell' = true) (h1v : ∀ u ∈ vs, u.oneCell' = true) :
    Calls Tryd.prog 23 #[.slice (some ⟨g, 0, none⟩) n c, .int .i64 i, .slice (some ⟨gv, 0, none⟩) 1 1] w fun e w' =>
      e = .returned (.slice (some ⟨g, 0, none⟩) (n + 1) c) ∧ w' = (w.drew.setCells g ((i + 1) * 4) (cs.drop (i * 4))).setCells g (i * 4) vs := by
  have hcl : cs.length = n * 4 := by rw [hcs, List.length_take, Array.length_toList, hcur]; omega
  have hz2 : ¬ ((i : Int) = (n : Int)) := by omega
  have hov : ∀ lb cb, (callFunc 43 #[.slice (some ⟨gv, 0, none⟩) 1 1, .slice (some ⟨g, (i + 1) * 4, none⟩) lb cb]).run Tryd.prog w = .ok (.value (.bool false)) w := fun lb cb => by
    rw [run_callFunc_extern Tryd.func43 (by kernel_rfl) (by kernel_rfl) (by kernel_rfl) (e := Extern.SlicesOverlaps.overlaps #[24, 24] #[4]) (by kernel_rfl),
      Lib.run_overlaps_apart w 24 4 26 Tryd.underlying24 4 (fun w => by kernel_rfl) ⟨gv, 0, none⟩ ⟨g, (i + 1) * 4, none⟩ 1 1 lb cb hvb 26 26 vs.length cur.size (by unfold World.shape?; rw [hv]; simp) (by unfold World.shape?; rw [hh]) (by omega) (frozen_of_row w gv 0 _ _ hv) (frozen_of_row w gv _ _ _ hv)]
    rfl
  have hcs2 : ∀ j v, cs[j]? = some v → w.cell? ⟨g, j, none⟩ = some v := fun j v hj => by
    have h1 := (List.getElem?_eq_some_iff.1 hj).1
    rw [cell_of_row w g j cur _ (0, 0) hh]
    rw [hcs, List.getElem?_take, if_pos (by omega)] at hj
    rw [← hj]; simp
  have hsp : ∀ (W : World) j, W.heap[g]? = w.heap[g]? → j < (n + 1) * 4 → (W.cell? ⟨g, j, none⟩).isSome = true := fun W j hW hj => by
    rw [cell_of_row W g j cur _ (0, 0) (hW.trans hh), Array.getElem?_eq_getElem (by omega)]; rfl
  have hfz : ∀ (W : World) j, W.heap[g]? = w.heap[g]? → W.frozen? ⟨g, j, none⟩ = false := fun W j hW => frozen_of_row W g j cur _ (hW.trans hh)
  have hsz : (Tryd.prog.info? 26).map (·.size) = some 4 := by
    obtain ⟨i0, z0, hi0, hz0, hsz0, _, _⟩ := elemVer.info
    rw [hi0]; simp [hsz0]; rfl
  have hdl : (cs.drop (i * 4)).length = (n - i) * 4 := by rw [List.length_drop, hcl]; omega
  have hcp1 : ∀ ty dc sc, (Builtin.copy_ #[24, 24] ty #[.slice (some ⟨g, (i + 1) * 4, none⟩) (n - i) dc, .slice (some ⟨g, i * 4, none⟩) (n + 1 - i) sc]).run Tryd.prog w.drew = .ok (goInt ((n - i : Nat) : Int)) (w.drew.setCells g ((i + 1) * 4) (cs.drop (i * 4))) := fun ty dc sc =>
    run_copy_many w.drew _ _ ty 26 4 (n - i) g ((i + 1) * 4) (n - i) dc ⟨g, i * 4, none⟩ (n + 1 - i) sc (cs.drop (i * 4)) Tryd.underlying24 hsz (by simp only [Nat.min_def]; split <;> omega) hdl
      (fun j v hj => by rw [add_eq]; exact hcs2 (i * 4 + j) v (by rwa [List.getElem?_drop] at hj))
      (fun j hj => hsp w.drew _ rfl (by rw [hdl] at hj; omega)) (fun j hj => hfz w.drew _ rfl) (fun v hv => h1c v (List.mem_of_mem_drop hv))
  obtain ⟨W1, hW1⟩ : ∃ W1, W1 = w.drew.setCells g ((i + 1) * 4) (cs.drop (i * 4)) := ⟨_, rfl⟩
  have hB1 : W1.heap[g]? = some (.cells (cur.toList.take ((i + 1) * 4) ++ (cs.drop (i * 4) ++ cur.toList.drop ((i + 1) * 4 + (cs.drop (i * 4)).length))).toArray 26 (0, 0)) := by
    rw [hW1]; exact heap_setCells _ _ w.drew cur hh (by rw [hdl]; omega)
  have hv1 : W1.heap[gv]? = some (.cells vs.toArray 26 (0, 0)) := by rw [hW1, setCells_keep hvb]; exact hv
  have hlB : (cur.toList.take ((i + 1) * 4) ++ (cs.drop (i * 4) ++ cur.toList.drop ((i + 1) * 4 + (cs.drop (i * 4)).length))).length = c * 4 := by simp only [List.length_append, List.length_take, List.length_drop, Array.length_toList]; omega
  have hcp2 : ∀ ty dc, (Builtin.copy_ #[24, 24] ty #[.slice (some ⟨g, i * 4, none⟩) (n + 1 - i) dc, .slice (some ⟨gv, 0, none⟩) 1 1]).run Tryd.prog W1 = .ok (goInt ((1 : Nat) : Int)) (W1.setCells g (i * 4) vs) := fun ty dc =>
    run_copy_many W1 _ _ ty 26 4 1 g (i * 4) (n + 1 - i) dc ⟨gv, 0, none⟩ 1 1 vs Tryd.underlying24 hsz (by simp only [Nat.min_def]; split <;> omega) (by rw [hvl])
      (fun j v hj => by rw [add_eq, Nat.zero_add, cell_of_row W1 gv j _ _ (0, 0) hv1]; simpa using hj)
      (fun j hj => by rw [cell_of_row W1 g _ _ _ (0, 0) hB1, List.getElem?_toArray, List.getElem?_eq_getElem (by rw [hlB]; omega)]; rfl)
      (fun j hj => frozen_of_row W1 g _ _ _ hB1) h1v
  rw [← hW1] at hcp1
  have mixed : Tryd.prog.follows .mixedOrders = true := by kernel_rfl
  have hw1 : IntKind.i64.wrap ((i : Int) + 1) = (i : Int) + 1 := by rw [IntKind.wrap_i64]; omega
  have hw2 : IntKind.i64.wrap ((n : Int) + 1) = (n : Int) + 1 := by rw [IntKind.wrap_i64]; omega
  have hb0 : i ≤ n := by omega
  have hb1 : (0 : Int) ≤ (i : Int) + 1 := by omega
  have hb2 : ¬ (c = i + 1) := by omega
  have hb3 : (i : Int) ≤ (n : Int) + 1 := by omega
  have hb4 : ¬ (c = i) := by omega
  have hb5 : ¬ ((c : Int) < (n : Int) + 1) := by omega
  have hb6 : (0 : Int) ≤ (n : Int) + 1 := by omega
  have hb7 : (n : Int) + 1 ≤ (c : Int) := by omega
  have HW := hid hW1
  clear hh hv hcs hcs2 hsp hfz hsz hdl hB1 hv1 hlB hcl hW1
  go_enter Tryd.func23, Tryd.ntmps23
  go_wp2_with (simp only [hov])
  go_region_law_o (refine step_copy_runI rfl _ _ 24 24 rfl _ _ (by simp [Act.eval, Act.put]) (by simp [Act.eval, Act.put]) (hcp1 _ _ _) ?_)
  go_wp2_with (at_builtin; refine wpList_copy_runI _ rfl _ _ 24 24 rfl _ _ rfl rfl (hcp2 _ _) ?_)
  go_ret
  exact ⟨rfl, by rw [HW.out]⟩

set_option maxHeartbeats 4000000 in
set_option maxRecDepth 100000 in
theorem ins_grow_v (g n c i gv : Nat) (cs vs : List Value) (cur : Array Value) (w : World) (hi : i < n) (hroom : c < n + 1) (hcur : cur.size = c * 4) (hh : w.heap[g]? = some (.cells cur 26 (0, 0))) (hv : w.heap[gv]? = some (.cells vs.toArray 26 (0, 0))) (hvb : gv ≠ g) (hcs : cs = cur.toList.take (n * 4)) (hnc : n ≤ c) (hn : n ≤ 1048576) (hc63 : c ≤ 9223372036854775807)
    (hvl : vs.length = 4) (h1c : ∀ u ∈ cs, u.oneCell' = true) (h1v : ∀ u ∈ vs, u.oneCell' = true) :
    Calls Tryd.prog 23 #[.slice (some ⟨g, 0, none⟩) n c, .int .i64 i, .slice (some ⟨gv, 0, none⟩) 1 1] w fun e w' =>
      ∃ G cur2, e = .returned (.slice (some ⟨w.heap.size, 0, none⟩) (n + 1) G) ∧ n + 1 ≤ G ∧ G ≤ maxLen ∧ w'.heap[w.heap.size]? = some (.cells cur2 26 (0, 0)) ∧ cur2.size = G * 4 ∧ cur2.toList.take ((n + 1) * 4) = cs.take (i * 4) ++ (vs ++ cs.drop (i * 4)) ∧ Ext w w' := by
  have hcl : cs.length = n * 4 := by rw [hcs, List.length_take, Array.length_toList, hcur]; omega
  have hz2 : ¬ ((i : Int) = (n : Int)) := by omega
  have hz3 : (c : Int) < (n : Int) + 1 := by omega
  obtain ⟨i0, z0, hi0, hz0, hsz0, hby0, hzc0⟩ := elemVer.info
  have hs4 : i0.size = 4 := hsz0
  have hzc4 : z0.cells.size = 4 := hzc0
  have hsz : (Tryd.prog.info? 26).map (·.size) = some 4 := by rw [hi0]; simp [hs4]
  have hgw : g < w.heap.size := block_lt hh
  have hvw : gv < w.heap.size := block_lt hv
  have hcs2 : ∀ (W : World), W.heap[g]? = w.heap[g]? → ∀ j v, cs[j]? = some v → W.cell? ⟨g, j, none⟩ = some v := fun W hW j v hj => by
    have h1 := (List.getElem?_eq_some_iff.1 hj).1
    rw [cell_of_row W g j cur _ (0, 0) (hW.trans hh)]
    rw [hcs, List.getElem?_take, if_pos (by omega)] at hj
    rw [← hj]; simp
  have hkk : (n : Int) + 1 - (i : Int) = ((n + 1 - i : Nat) : Int) := by omega
  have hik : i + (n + 1 - i) = n + 1 := by omega
  have hold : (Builtin.firstCells i0.size i (.slice (some ⟨g, 0, none⟩) i c)).run Tryd.prog w.drew = .ok (cs.take (i * 4)).toArray w.drew := by
    rw [hs4]
    exact run_firstCells_some w.drew 4 i ⟨g, 0, none⟩ i c (cs.take (i * 4)) (by rw [List.length_take]; omega) (fun j v hj => by
      rw [add_eq, Nat.zero_add]
      rw [List.getElem?_take] at hj
      split at hj
      · exact hcs2 w.drew rfl j v hj
      · cases hj)
  obtain ⟨G, hG⟩ : ∃ G, G = grownCap w (n + 1) c 26 := ⟨_, rfl⟩
  have hGn : n + 1 ≤ G := by rw [hG]; exact grownCap_ge w _ _ _
  have hG63 : G ≤ maxLen := by rw [hG]; exact grownCap_le_maxLen w (n + 1) c 26 (by unfold maxLen; omega)
  obtain ⟨ROW, hROW⟩ : ∃ ROW : Array Value, ROW = (cs.take (i * 4)).toArray ++ Builtin.zeroCells z0.cells (n + 1 - i) ++ Builtin.zeroCells z0.cells (G - (n + 1)) := ⟨_, rfl⟩
  have hrz : ∀ ty, (Builtin.append_ #[24, 3] ty #[.slice (some ⟨g, 0, none⟩) i c, .int .i64 ((n : Int) + 1 - (i : Int))]).run Tryd.prog w =
      .ok (.slice (some ⟨w.heap.size, 0, none⟩) (n + 1) G) (w.drew.alloc (.cells ROW 26)) := fun ty => by
    have h := Lib.run_append_grow_zeros w 24 3 ty 26 i0 z0 .i64 .i64 Tryd.underlying24 Tryd.underlying3 hi0 hz0 (some ⟨g, 0, none⟩) i c (cs.take (i * 4)) hold (n + 1 - i) (by omega) (by omega) (by omega) (by omega) (by rw [hby0]; omega) (by rw [hby0, hik]; exact growslice_fits hroom (by omega))
    rw [hik] at h
    rw [hkk, hROW, hG]
    exact h
  have hRs : ROW.size = G * 4 := by
    rw [hROW]
    simp only [Array.size_append, List.size_toArray, List.length_take, Builtin.zeroCells, Array.size_map, Array.size_range, hzc4]
    omega
  have hRt : ROW.toList.take (i * 4) = cs.take (i * 4) := by
    rw [hROW]
    simp only [Array.toList_append]
    rw [List.append_assoc, List.take_append_of_le_length (by simp; omega), List.take_of_length_le (by simp; omega)]
  obtain ⟨W1, hW1⟩ : ∃ W1, W1 = w.drew.alloc (.cells ROW 26) := ⟨_, rfl⟩
  rw [← hW1] at hrz
  have hN1 : W1.heap[w.heap.size]? = some (.cells ROW 26 (0, 0)) := by rw [hW1]; exact heap_alloc_new w.drew _
  have hX1 : Ext w W1 := by rw [hW1]; exact (Ext.refl w).drew.alloc _
  have hV1 : W1.heap[gv]? = some (.cells vs.toArray 26 (0, 0)) := (hX1.block hvw).trans hv
  have hO1 : W1.heap[g]? = w.heap[g]? := hX1.block hgw
  have hne1 : gv ≠ w.heap.size := by omega
  have hne2 : g ≠ w.heap.size := by omega
  have hdl : (cs.drop (i * 4)).length = (n - i) * 4 := by rw [List.length_drop, hcl]; omega
  have hcpA : ∀ (W : World), W.heap = W1.heap → ∀ ty dc, (Builtin.copy_ #[24, 24] ty #[.slice (some ⟨w.heap.size, i * 4, none⟩) (n + 1 - i) dc, .slice (some ⟨gv, 0, none⟩) 1 1]).run Tryd.prog W = .ok (goInt ((1 : Nat) : Int)) (W.setCells w.heap.size (i * 4) vs) := fun W hW ty dc => by
    have hn : W.heap[w.heap.size]? = some (.cells ROW 26 (0, 0)) := by rw [hW]; exact hN1
    have hv2 : W.heap[gv]? = some (.cells vs.toArray 26 (0, 0)) := by rw [hW]; exact hV1
    exact run_copy_many W _ _ ty 26 4 1 w.heap.size (i * 4) (n + 1 - i) dc ⟨gv, 0, none⟩ 1 1 vs Tryd.underlying24 hsz (by simp only [Nat.min_def]; split <;> omega) (by rw [hvl])
      (fun j v hj => by rw [add_eq, Nat.zero_add, cell_of_row W gv j _ _ (0, 0) hv2]; simpa using hj)
      (fun j hj => by rw [cell_of_row W _ _ _ _ (0, 0) hn, Array.getElem?_eq_getElem (by omega)]; rfl)
      (fun j hj => frozen_of_row W _ _ _ _ hn) h1v
  obtain ⟨W2, hW2⟩ : ∃ W2, W2 = W1.setCells w.heap.size (i * 4) vs := ⟨_, rfl⟩
  have hN2 : W2.heap[w.heap.size]? = some (.cells (ROW.toList.take (i * 4) ++ (vs ++ ROW.toList.drop (i * 4 + vs.length))).toArray 26 (0, 0)) := by rw [hW2]; exact heap_setCells _ _ W1 ROW hN1 (by omega)
  have hl2 : (ROW.toList.take (i * 4) ++ (vs ++ ROW.toList.drop (i * 4 + vs.length))).length = G * 4 := by simp only [List.length_append, List.length_take, List.length_drop, Array.length_toList]; omega
  have hO2 : W2.heap[g]? = w.heap[g]? := by rw [hW2, setCells_keep hne2]; exact hO1
  have hcpB : ∀ (W : World), W.heap = W2.heap → ∀ ty dc sc, (Builtin.copy_ #[24, 24] ty #[.slice (some ⟨w.heap.size, (i + 1) * 4, none⟩) (n - i) dc, .slice (some ⟨g, i * 4, none⟩) (n - i) sc]).run Tryd.prog W = .ok (goInt ((n - i : Nat) : Int)) (W.setCells w.heap.size ((i + 1) * 4) (cs.drop (i * 4))) := fun W hW ty dc sc => by
    have hn := (show W.heap[w.heap.size]? = W2.heap[w.heap.size]? by rw [hW]).trans hN2
    exact run_copy_many W _ _ ty 26 4 (n - i) w.heap.size ((i + 1) * 4) (n - i) dc ⟨g, i * 4, none⟩ (n - i) sc (cs.drop (i * 4)) Tryd.underlying24 hsz (by simp only [Nat.min_def]; split <;> omega) hdl
      (fun j v hj => by rw [add_eq]; exact hcs2 W (by rw [hW]; exact hO2) (i * 4 + j) v (by rwa [List.getElem?_drop] at hj))
      (fun j hj => by rw [cell_of_row W _ _ _ _ (0, 0) hn, List.getElem?_toArray, List.getElem?_eq_getElem (by rw [hl2]; omega)]; rfl)
      (fun j hj => frozen_of_row W _ _ _ _ hn) (fun v hv => h1c v (List.mem_of_mem_drop hv))
  have HE := hid (show ∀ (W : World), W.heap = (W2.setCells w.heap.size ((i + 1) * 4) (cs.drop (i * 4))).heap → ∃ cur2 : Array Value, W.heap[w.heap.size]? = some (.cells cur2 26 (0, 0)) ∧ cur2.size = G * 4 ∧ cur2.toList.take ((n + 1) * 4) = cs.take (i * 4) ++ (vs ++ cs.drop (i * 4)) ∧ ∀ b, b < w.heap.size → W.heap[b]? = w.heap[b]? from fun W hW => by
    have hn := heap_setCells (g := w.heap.size) (e := 26) (cs.drop (i * 4)) ((i + 1) * 4) W2 _ hN2 (by simp only [List.size_toArray, hl2, hdl]; omega)
    refine ⟨_, by rw [hW]; exact hn, ?_, ?_, fun b hb => ?_⟩
    · simp only [List.size_toArray, List.length_append, List.length_take, List.length_drop, hl2]; omega
    · have e1 : (ROW.toList.take (i * 4) ++ (vs ++ ROW.toList.drop (i * 4 + vs.length))).take ((i + 1) * 4) = cs.take (i * 4) ++ vs := by
        rw [hRt, ← List.append_assoc, List.take_append_of_le_length (by simp only [List.length_append, List.length_take]; omega), List.take_of_length_le (by simp only [List.length_append, List.length_take]; omega)]
      rw [List.toList_toArray, List.toList_toArray, e1, List.append_assoc, ← List.append_assoc, ← List.append_assoc, List.take_append_of_le_length (by simp only [List.length_append, List.length_take, hdl]; omega), List.take_of_length_le (by simp only [List.length_append, List.length_take, hdl]; omega), List.append_assoc]
    · rw [hW, setCells_keep (by omega), hW2, setCells_keep (by omega)]
      exact hX1.block hb)
  have hb0 : i ≤ n := by omega
  have mixed : Tryd.prog.follows .mixedOrders = true := by kernel_rfl
  have hw1 : IntKind.i64.wrap ((i : Int) + 1) = (i : Int) + 1 := by rw [IntKind.wrap_i64]; omega
  have hw2 : IntKind.i64.wrap ((n : Int) + 1) = (n : Int) + 1 := by rw [IntKind.wrap_i64]; omega
  have hb1 : (0 : Int) ≤ (i : Int) + 1 := by omega
  have hb3 : (i : Int) ≤ (n : Int) := by omega
  have hb4 : ¬ (c = i) := by omega
  have hGi : ¬ (G = i) := by omega
  have hGj : ¬ (G = i + 1) := by omega
  have hGk : (i : Int) ≤ (n : Int) + 1 := by omega
  have HG := hid (And.intro hGn hG63)
  have HW1 := hid hW1
  have HW2 := hid hW2
  have hGm : G ≤ 9223372036854775807 := by unfold maxLen at hG63; omega
  clear hh hv hcs hcs2 hold hkk hik hG hROW hRs hRt hN1 hX1 hV1 hO1 hdl hN2 hl2 hO2 hcl hsz hG63 hW2
  go_enter Tryd.func23, Tryd.ntmps23
  go_wp2_with (first
    | (at_builtin; refine Lib.wpList_append_run _ rfl _ _ _ _ rfl _ _ rfl rfl _ _ (hrz _) ?_)
    | (at_builtin; refine wpList_copy_runI _ rfl _ _ 24 24 rfl _ _ rfl rfl (hcpA _ (by first | rfl | (rw [HW1.out]; rfl)) _ _) ?_))
  go_region_law_o (refine step_copy_runI rfl _ _ 24 24 rfl (.slice (some ⟨w.heap.size, (i + 1) * 4, none⟩) (n - i) (G - (i + 1))) (.slice (some ⟨g, i * 4, none⟩) (n - i) (c - i)) (by simp [Act.eval, Act.put]) (by simp [Act.eval, Act.put]) (hcpB _ (by first | (rw [HW2.out]; rfl) | (rw [HW2.out, HW1.out]; rfl)) 3 (G - (i + 1)) (c - i)) ?_)
  go_wp2
  go_ret
  obtain ⟨cur2, c1, c2, c3, _⟩ := HE.out (((w.alloc (.cells ROW 26)).drew.setCells w.heap.size (i * 4) vs).drew.setCells w.heap.size ((i + 1) * 4) (cs.drop (i * 4))) (setCells_heap _ _ (by rw [HW2.out, HW1.out]; rfl))
  refine ⟨G, cur2, rfl, HG.out.1, HG.out.2, c1, c2, c3, ?_⟩
  try rw [HW1.out]
  repeat (first | exact Ext.refl _ | refine Ext.drew ?_ | refine Ext.alloc ?_ _ | refine Ext.setCells (Nat.le_refl _) _ _ ?_)

/-- slices.Insert of one element, cell by cell -/
theorem slices_Insert_v (v : Value) (cs c : List Value) (n i base gv : Nat) (w : World) (h : w.ownsRow base 26 4 v n cs) (hi : i ≤ n) (hn : n ≤ 1048576) (hb : base ≤ w.heap.size) (hc4 : c.length = 4)
    (hv : w.heap[gv]? = some (.cells c.toArray 26 (0, 0))) (hne : v.ownBlock ≠ some gv) (h1c : ∀ u ∈ cs, u.oneCell' = true) (h1v : ∀ u ∈ c, u.oneCell' = true) :
    Calls Tryd.prog 23 #[v, .int .i64 i, .slice (some ⟨gv, 0, none⟩) 1 1] w fun e w2 => ∃ v2, e = .returned v2 ∧ w2.ownsRow base 26 4 v2 (n + 1) (cs.take (i * 4) ++ (c ++ cs.drop (i * 4))) ∧
      (∀ w0 : World, w0.heap.size ≤ base → Ext w0 w → Ext w0 w2) ∧ (∀ b, b < w.heap.size → v.ownBlock ≠ some b → w2.heap[b]? = w.heap[b]?) ∧ w.heap.size ≤ w2.heap.size := by
  by_cases hin : i < n
  · rcases h.2 with ⟨_, h0⟩ | ⟨g, cap, cur, rfl, hbg, hh, hnc, hcm, hcs, htk⟩
    · omega
    · have hgv : gv ≠ g := fun e => hne (by rw [e]; rfl)
      have hc63 : cap ≤ 9223372036854775807 := by unfold maxLen at hcm; omega
      have hcl : cs.length = n * 4 := h.1
      have hcul : cur.toList.length = cap * 4 := by rw [Array.length_toList]; exact hcs
      by_cases hroom : n + 1 ≤ cap
      · refine (ins_shift_v g n cap i gv cs c cur w hin hroom hcs hh hv hgv htk.symm hnc hn hc63 hc4 h1c h1v).mono ?_
        rintro e w2 ⟨rfl, rfl⟩
        have hdl : (cs.drop (i * 4)).length = (n - i) * 4 := by rw [List.length_drop, hcl]; omega
        have hB1 := heap_setCells (g := g) (e := 26) (cs.drop (i * 4)) ((i + 1) * 4) w.drew cur hh (by rw [hdl]; omega)
        have hlB : (cur.toList.take ((i + 1) * 4) ++ (cs.drop (i * 4) ++ cur.toList.drop ((i + 1) * 4 + (cs.drop (i * 4)).length))).length = cap * 4 := by simp only [List.length_append, List.length_take, List.length_drop, Array.length_toList]; omega
        have hB2 := heap_setCells (g := g) (e := 26) c (i * 4) _ _ hB1 (by simp only [List.size_toArray, hlB, hc4]; omega)
        refine ⟨_, rfl, ⟨?_, .inr ⟨g, cap, _, rfl, hbg, hB2, hroom, hcm, ?_, ?_⟩⟩, fun w0 h0 hx => ?_, fun b hb2 hne2 => ?_, ?_⟩
        · simp only [List.length_append, List.length_take, List.length_drop, hcl, hc4]; omega
        · simp only [List.size_toArray, List.length_append, List.length_take, List.length_drop, hlB, hc4]; omega
        · have e1 : (cur.toList.take ((i + 1) * 4) ++ (cs.drop (i * 4) ++ cur.toList.drop ((i + 1) * 4 + (cs.drop (i * 4)).length))).take (i * 4) = cs.take (i * 4) := by
            rw [List.take_append_of_le_length (by rw [List.length_take, hcul]; omega), List.take_take, Nat.min_eq_left (by omega), ← htk, List.take_take, Nat.min_eq_left (by omega)]
          have e2 : (cur.toList.take ((i + 1) * 4) ++ (cs.drop (i * 4) ++ cur.toList.drop ((i + 1) * 4 + (cs.drop (i * 4)).length))).drop (i * 4 + c.length) = cs.drop (i * 4) ++ cur.toList.drop ((i + 1) * 4 + (cs.drop (i * 4)).length) := by
            rw [hc4, show i * 4 + 4 = (i + 1) * 4 by omega, List.drop_append_of_le_length (by rw [List.length_take, hcul]; omega), List.drop_of_length_le (by rw [List.length_take, hcul]; omega), List.nil_append]
          rw [List.toList_toArray, List.toList_toArray, e1, e2, ← List.append_assoc c, ← List.append_assoc, List.take_append_of_le_length (by simp only [List.length_append, List.length_take, hdl, hcl, hc4]; omega), List.take_of_length_le (by simp only [List.length_append, List.length_take, hdl, hcl, hc4]; omega)]
        · exact Ext.setCells (Nat.le_trans h0 hbg) _ _ (Ext.setCells (Nat.le_trans h0 hbg) _ _ hx.drew)
        · have hbg2 : b ≠ g := fun e => hne2 (by rw [e]; rfl)
          rw [setCells_keep hbg2, setCells_keep hbg2]; rfl
        · rw [setCells_size, setCells_size]; exact Nat.le_refl _
      · refine (ins_grow_v g n cap i gv cs c cur w hin (by omega) hcs hh hv hgv htk.symm hnc hn hc63 hc4 h1c h1v).mono ?_
        rintro e w2 ⟨G, cur2, rfl, hG1, hG2, hN, hs2, ht2, hx2⟩
        exact ⟨_, rfl, ⟨by simp only [List.length_append, List.length_take, List.length_drop, hcl, hc4]; omega, .inr ⟨w.heap.size, G, cur2, rfl, hb, hN, hG1, hG2, hs2, ht2⟩⟩, fun w0 h0 hx => hx.trans hx2, fun b hb2 _ => hx2.block hb2, hx2.size⟩
  · obtain rfl : i = n := by omega
    have hlt := h.lt
    have hcl : cs.length = i * 4 := h.1
    obtain ⟨i0, z0, hi0, hz0, hsz0, hby0, hzc0⟩ := elemVer.info
    have e1 : cs.take (i * 4) ++ (c ++ cs.drop (i * 4)) = cs ++ c := by rw [List.take_of_length_le (by omega), List.drop_of_length_le (by omega), List.append_nil]
    rw [e1]
    obtain ⟨A, cap, hvA, hcap⟩ : ∃ A cap, v = .slice A i cap ∧ cap ≤ 9223372036854775807 := by
      rcases h.2 with ⟨rfl, h0⟩ | ⟨g, cap, cur, rfl, _, _, _, hcm, _⟩
      · exact ⟨none, 0, by rw [h0], by omega⟩
      · exact ⟨_, _, rfl, by unfold maxLen at hcm; omega⟩
    have hcap2 : i ≤ cap := by
      rcases h.2 with ⟨rfl, h0⟩ | ⟨g, cap2, cur, rfl, _, _, hnc, _, _⟩
      · omega
      · injection hvA with _ _ e; omega
    have HO := hid h
    have HL := hid hlt
    rw [hvA] at HO HL ⊢
    have hbb : (i : Int) ≤ (cap : Int) := by omega
    clear hvA h hlt hne e1
    by_cases hci : cap = i
    · replace hci := hci.symm
      subst hci
      go_enter Tryd.func23, Tryd.ntmps23
      go_wp2_with (at_builtin; refine wpList_append_own_at w rfl _ _ 24 rfl base 26 i0 z0 4 32 Tryd.underlying24 hi0 hz0 hsz0 hby0 hzc0 (by decide) (.slice A i i) i cs rfl HO.out ⟨gv, 0, none⟩ 1 1 c rfl (by rw [hc4]) (fun j u hj => by rw [add_eq, Nat.zero_add, cell_of_row w gv j _ _ (0, 0) hv]; simpa using hj) h1v (by unfold maxLen; omega) (by omega) hb ?_; intro v9 w9 hown hgr _ hat)
      go_ret
      exact ⟨_, rfl, hown, fun w0 h0 hx => hx.grown hgr fun g hg => Nat.le_trans h0 (HL.out g hg).1, fun b hb2 hne2 => hgr.block b hb2 (fun e => hne2 e.symm), hgr.size⟩
    · skip
      go_enter Tryd.func23, Tryd.ntmps23
      go_wp2_with (at_builtin; refine wpList_append_own_at w rfl _ _ 24 rfl base 26 i0 z0 4 32 Tryd.underlying24 hi0 hz0 hsz0 hby0 hzc0 (by decide) (.slice A i cap) i cs rfl HO.out ⟨gv, 0, none⟩ 1 1 c rfl (by rw [hc4]) (fun j u hj => by rw [add_eq, Nat.zero_add, cell_of_row w gv j _ _ (0, 0) hv]; simpa using hj) h1v (by unfold maxLen; omega) (by omega) hb ?_; intro v9 w9 hown hgr _ hat)
      go_ret
      exact ⟨_, rfl, hown, fun w0 h0 hx => hx.grown hgr fun g hg => Nat.le_trans h0 (HL.out g hg).1, fun b hb2 hne2 => hgr.block b hb2 (fun e => hne2 e.symm), hgr.size⟩

end Go.Proofs.YtblggajfdhjmjaaDoor
