/-
  SEVERAL SMALL TEXTS LAID TOGETHER: RecS, PIs, PVl, VerS, Rid, VerEq, MarkRS, CmpR, Same.
-/
import Derived.Test.YtfieimmlcopbhaaGreatDoorMgEndFnRec6
import Derived.Test.YtfieimmlcopbhaaGreatDoorMgEndFnRec0
import Derived.Test.YtfieimmlcopbhaaGreatDoorMgEndFnRec7
import Derived.Test.YtfieimmlcopbhaaGreatDoorMgEndFnRec9
import Derived.Lib.IndexAny
import Derived.Test.YtfieimmlcopbhaaGreatDoorMgEndFnRec10
import Derived.Test.YtfieimmlcopbhaaGreatDoorMgEndFnRec5
import Derived.Laws.IdiomStrings
import Derived.Laws.Concat

namespace Go.Proofs.YtfieimmlcopbhaaGreatDoor
open Go.RowKit

theorem Sl.record {w : World} {A : Option Addr} {n cap : Nat} {xs : List Record} (h : Sl recordR w (.slice A n cap) xs) {i : Nat} (hi : i < xs.length) :
    ∃ b off A2 cap2, A = some ⟨b, off, none⟩ ∧ xs[i].ok ∧ Sl strR w (.slice A2 xs[i].fields.length cap2) xs[i].fields ∧ w.cell? ⟨b, off + i * 4, none⟩ = some (.int .i64 xs[i].source) ∧ w.cell? ⟨b, off + i * 4 + 1, none⟩ = some (.int .i64 xs[i].key) ∧ w.cell? ⟨b, off + i * 4 + 2, none⟩ = some (.int .i64 xs[i].version) ∧ w.cell? ⟨b, off + i * 4 + 3, none⟩ = some (.slice A2 xs[i].fields.length cap2) := by
  obtain ⟨b, off, cs, rfl, ⟨m, rfl, hok, hs⟩, hc⟩ := h.at_ hi
  have hs' := hs
  obtain ⟨A2, cap2, rfl, _⟩ := hs
  exact ⟨b, off, A2, cap2, rfl, hok, hs', by simpa [recordR, Record.cells] using hc 0 (by simp [recordR]), by simpa [recordR, Record.cells] using hc 1 (by simp [recordR]), by simpa [recordR, Record.cells] using hc 2 (by simp [recordR]), by simpa [recordR, Record.cells] using hc 3 (by simp [recordR])⟩

theorem infoRecord : (Tryz.prog.info? 24).map (fun i => (i.zero, i.size, i.bytes)) = some (some (.agg #[.int .i64 0, .int .i64 0, .int .i64 0, .slice none 0 0]), 4, 48) := by kernel_rfl
def recordZ : List Value := [.int .i64 0, .int .i64 0, .int .i64 0, .slice none 0 0]

end Go.Proofs.YtfieimmlcopbhaaGreatDoor

namespace Go.Proofs.YtfieimmlcopbhaaGreatDoor
open Go.RowKit

/-- parseInts' answer -/
noncomputable def pIs (ws : List ByteArray) : List Int × Bool := if (ws.all fun s => (pI s).2) = true then (ws.map (fun s => (pI s).1), true) else ([], false)
theorem pIs_yes {ws : List ByteArray} (h : ∀ s ∈ ws, (pI s).2 = true) : pIs ws = (ws.map (fun s => (pI s).1), true) := by unfold pIs; rw [if_pos (List.all_eq_true.2 h)]
theorem pIs_no {ws : List ByteArray} {k : Nat} (hk : k < ws.length) (h : (pI ws[k]).2 = false) : pIs ws = ([], false) := by
  unfold pIs
  rw [if_neg]
  intro h9
  have := List.all_eq_true.1 h9 ws[k] (List.getElem_mem hk)
  rw [h] at this; cases this
theorem OwnSl.nilS {α : Type} (R : RepO α) (w : World) : OwnSl R w (.slice none 0 0) ([] : List α) [] := .inl ⟨rfl, rfl, .none, 0, rfl, Nat.zero_le _⟩

set_option maxHeartbeats 400000 in
set_option maxRecDepth 20000 in
theorem impl_parseInts (v : Value) (ws : List ByteArray) (w : World) (h : Sl strR w v ws) (hb : ws.length ≤ 1048600) (hs : ∀ s ∈ ws, s.size ≤ 1048600) (N : Env w) :
    Calls Tryz.prog 98 #[v] w fun e w2 => ∃ u F, e = .returned (.tuple #[u, .bool (pIs ws).2]) ∧ OwnSl intO w2 u (pIs ws).1 F ∧ NewF w F ∧ Ext w w2 := by
  obtain ⟨A, cap, rfl, hm⟩ := h.form
  go_enter Tryz.func98, Tryz.ntmps98
  go_wp2
  go_loopw [4, 11] (fun l i wr => ∃ k : Nat, k ≤ ws.length ∧ i = .int .i64 k ∧ Bld intO wr w.heap.size 3 l ((ws.take k).map fun s => (pI s).1) [] ∧ Hid (∀ s ∈ ws.take k, (pI s).2 = true) ∧ Ext w wr) (fun _ i _ => ws.length - (intOf i).toNat)
  case atStart => exact ⟨0, Nat.zero_le _, rfl, by simpa using Bld.nil w w.heap.size _, hid (by simp), Ext.refl _⟩
  case round =>
    obtain ⟨k, hk, rfl, hB, hall, hx⟩ := hrel
    by_cases hlt : k < ws.length
    · obtain ⟨b, off, rfl, hsz, hc⟩ := (h.mono hx).str hlt
      have hI := pI_64 ws[k]
      have HS := hid (hs _ (List.getElem_mem hlt))
      clear hsz
      go_wp2_with fail
      refine (impl_ParseInt ws[k] _ HS.out (N.mono hx)).mono ?_
      rintro e w2 ⟨rfl, x2⟩
      cases hp : (pI ws[k]).2 with
      | true =>
        have hB2 := hB.ext x2
        have hbs := (hx.trans x2).size
        have hl : ((ws.take k).map fun s => (pI s).1).length ≤ 1048600 := by rw [List.length_map, List.length_take]; omega
        have hnew := hid (show ∀ s ∈ ws.take (k + 1), (pI s).2 = true from fun s hm => by
          rw [List.take_succ_eq_append_getElem hlt, List.mem_append, List.mem_singleton] at hm
          rcases hm with hm | rfl
          · exact hall.out s hm
          · exact hp)
        clear hp
        go_wp2_with (at_builtin; refine wpList_app1 elemInt (by decide) rfl _ _ rfl hB2 rfl w2.heap.size 1 rfl rfl (one_int _) (own_int _ _ hI) fresh_nil (by omega) (by decide) hbs ?_; intro v9 w9 hB9 hE9)
        go_roundw
        case rel => exact ⟨k + 1, by omega, by go_num, by rw [List.take_succ_eq_append_getElem hlt, List.map_append]; exact hB9, hnew, hE9 _ (Nat.le_refl _) (hx.trans x2)⟩
        case measure => simp [intOf]; omega
      | false =>
        have HP := hid (pIs_no hlt hp)
        clear hp
        go_wp2
        refine bodyPost_ret (v := .tuple #[.slice none 0 0, .bool false]) (by simp [results, Tryz.results98, go_sem]) rfl ?_
        exact ⟨_, [], by rw [HP.out], by rw [HP.out]; exact OwnSl.nilS _ _, NewF.nil _, hx.trans x2⟩
    · rw [List.take_of_length_le (by omega)] at hB
      have HA := hid (show ∀ s ∈ ws, (pI s).2 = true by have := hall.out; rwa [List.take_of_length_le (by omega)] at this)
      have HP := hid (pIs_yes HA.out)
      obtain ⟨F, hF, hN, hb⟩ := hB.done
      obtain ⟨A4, cap4, e4, _⟩ := hF.form
      subst e4
      go_wp2
      refine bodyPost_ret (v := .tuple #[.slice A4 (ws.map fun s => (pI s).1).length cap4, .bool true]) (by simp [results, Tryz.results98, go_sem]) rfl ?_
      exact ⟨_, F, by rw [HP.out], by rw [HP.out]; exact hF, ⟨hN, hb⟩, hx⟩
end Go.Proofs.YtfieimmlcopbhaaGreatDoor

namespace Go.Proofs.YtfieimmlcopbhaaGreatDoor
open Go.RowKit

noncomputable def pV (s : ByteArray) : Verdict × Bool := ans okV fmtV ⟨0, 0, false, 0⟩ s
def sgn (b : Bool) : UInt8 := if b = true then 61 else 33
/-- the head of a verdict's text -/
def vHd (v : Verdict) : List UInt8 := Go.Lib.itoa v.a ++ sgn v.same :: Go.Lib.itoa v.b
theorem V_data {v : Verdict} (h : okV v = true) : (fmtV v).data.toList = Go.Lib.itoa v.a ++ sgn v.same :: (Go.Lib.itoa v.b ++ 64 :: Go.Lib.itoa v.time) := by
  unfold fmtV
  rw [if_pos h]
  simp only [app_data, itoaS_data]
  unfold sgn
  cases v.same <;> simp
theorem V_data2 {v : Verdict} (h : okV v = true) : (fmtV v).data.toList = vHd v ++ 64 :: Go.Lib.itoa v.time := by
  rw [V_data h]; unfold vHd; simp
theorem sgn_no (b : Bool) : isDg (sgn b) = false ∧ sgn b ≠ 45 ∧ sgn b ≠ 64 := by cases b <;> decide
theorem itoa_64 (n : Int) : (64 : UInt8) ∉ Go.Lib.itoa n := itoa_no 64 (by decide) (by decide) n
theorem itoa_61 (n : Int) : (61 : UInt8) ∉ Go.Lib.itoa n := itoa_no 61 (by decide) (by decide) n
theorem itoa_33 (n : Int) : (33 : UInt8) ∉ Go.Lib.itoa n := itoa_no 33 (by decide) (by decide) n
theorem itoa_sgn (b : Bool) (n : Int) : sgn b ∉ Go.Lib.itoa n := itoa_no _ (sgn_no b).1 (sgn_no b).2.1 n
theorem vHd_64 (v : Verdict) : (64 : UInt8) ∉ vHd v := by
  unfold vHd
  rw [List.mem_append, List.mem_cons]
  rintro (h | h | h)
  · exact itoa_64 _ h
  · exact (sgn_no v.same).2.2 h.symm
  · exact itoa_64 _ h
theorem V_cut {v : Verdict} {s : ByteArray} (h : okV v = true) (e : fmtV v = s) : pcs 64 s = [bs (vHd v), bs (Go.Lib.itoa v.time)] := by
  subst e
  unfold pcs
  rw [V_data2 h, cutL_hit (vHd_64 v), cutL_all (itoa_64 _)]; rfl
theorem V_cut2 (v : Verdict) (h : v.same = true) : pcs 61 (bs (vHd v)) = [bs (Go.Lib.itoa v.a), bs (Go.Lib.itoa v.b)] := by
  rw [pcs_bs]; unfold vHd sgn
  rw [if_pos h, cutL_hit (itoa_61 _), cutL_all (itoa_61 _)]; rfl
theorem V_cut3 (v : Verdict) (h : v.same = false) : (pcs 61 (bs (vHd v))).length = 1 ∧ pcs 33 (bs (vHd v)) = [bs (Go.Lib.itoa v.a), bs (Go.Lib.itoa v.b)] := by
  rw [pcs_bs, pcs_bs]; unfold vHd sgn
  rw [if_neg (by simp [h])]
  refine ⟨?_, by rw [cutL_hit (itoa_33 _), cutL_all (itoa_33 _)]; rfl⟩
  rw [cutL_all]
  · rfl
  · rw [List.mem_append, List.mem_cons]
    rintro (h | h | h)
    · exact itoa_61 _ h
    · exact absurd h (by decide)
    · exact itoa_61 _ h
theorem okV_r {v : Verdict} (h : okV v = true) : pI (bs (Go.Lib.itoa v.a)) = (v.a, true) ∧ pI (bs (Go.Lib.itoa v.b)) = (v.b, true) ∧ pI (bs (Go.Lib.itoa v.time)) = (v.time, true) := by
  obtain ⟨h1, h2, h3, h4⟩ := okV_bounds h
  exact ⟨pI_itoa (by omega), pI_itoa (by omega), pI_itoa (by omega)⟩

theorem pV_no1 {s : ByteArray} (h : ¬ (pcs 64 s).length = 2) : pV s = (⟨0, 0, false, 0⟩, false) :=
  ans_no fun x h1 h2 => h (by rw [V_cut h1 h2]; rfl)
theorem pV_no2 {s h0 h1 : ByteArray} (h : pcs 64 s = [h0, h1]) (k1 : ¬ (pcs 61 h0).length = 2) (k2 : ¬ (pcs 33 h0).length = 2) : pV s = (⟨0, 0, false, 0⟩, false) :=
  ans_no fun x h1 h2 => by
    have e := (V_cut h1 h2).symm.trans h
    injection e with e1 _
    cases hs : x.same
    · exact k2 (by rw [← e1, (V_cut3 x hs).2]; rfl)
    · exact k1 (by rw [← e1, V_cut2 x hs]; rfl)
theorem pV_A1 {s h0 h1 p0 p1 : ByteArray} (h : pcs 64 s = [h0, h1]) (k : pcs 61 h0 = [p0, p1]) : ∀ x, okV x = true → fmtV x = s → x = ⟨(pI p0).1, (pI p1).1, true, (pI h1).1⟩ := fun x h1 h2 => by
  have e := (V_cut h1 h2).symm.trans h
  injection e with e1 e2
  injection e2 with e2 _
  obtain ⟨r1, r2, r3⟩ := okV_r h1
  cases hs : x.same
  · exfalso
    have := (V_cut3 x hs).1
    rw [e1, k] at this; cases this
  · have q := (V_cut2 x hs).symm.trans (e1 ▸ k)
    injection q with q1 q2
    injection q2 with q2 _
    rw [← q1, ← q2, ← e2, r1, r2, r3, ← hs]
theorem pV_A2 {s h0 h1 p0 p1 : ByteArray} (h : pcs 64 s = [h0, h1]) (k1 : ¬ (pcs 61 h0).length = 2) (k : pcs 33 h0 = [p0, p1]) : ∀ x, okV x = true → fmtV x = s → x = ⟨(pI p0).1, (pI p1).1, false, (pI h1).1⟩ := fun x h1 h2 => by
  have e := (V_cut h1 h2).symm.trans h
  injection e with e1 e2
  injection e2 with e2 _
  obtain ⟨r1, r2, r3⟩ := okV_r h1
  cases hs : x.same
  · have q := (V_cut3 x hs).2.symm.trans (e1 ▸ k)
    injection q with q1 q2
    injection q2 with q2 _
    rw [← q1, ← q2, ← e2, r1, r2, r3, ← hs]
  · exact absurd (show (pcs 61 h0).length = 2 by rw [← e1, V_cut2 x hs]; rfl) k1
/-- the last test -/
theorem fmtV_ok {v : Verdict} {s : ByteArray} (h : fmtV v = s) (hs : s ≠ ⟨#[]⟩) : okV v = true := by
  cases hv : okV v with
  | true => rfl
  | false => exact absurd (by rw [← h, fmtV_none (by simp [hv])]) hs
/-- the program's road: the first sign, then the '@' -/
theorem V_idx {v : Verdict} {s : ByteArray} (h : okV v = true) (e : fmtV v = s) : Go.Lib.indexAny s.data.toList [61, 33] = ((Go.Lib.itoa v.a).length : Int) := by
  subst e
  rw [V_data h]
  refine Go.Lib.indexAny_hit (i := (Go.Lib.itoa v.a).length) (x := sgn v.same) ?_ (by simp) (by cases v.same <;> decide)
  intro j b hj hb
  rw [List.getElem?_append_left hj] at hb
  have hm := List.mem_of_getElem? hb
  cases hc : ([61, 33] : List UInt8).contains b with
  | false => rfl
  | true =>
    simp only [List.contains_cons, List.contains_nil, Bool.or_false, Bool.or_eq_true, beq_iff_eq] at hc
    rcases hc with rfl | rfl
    · exact absurd hm (itoa_61 _)
    · exact absurd hm (itoa_33 _)
theorem V_road {v : Verdict} {s : ByteArray} (h : okV v = true) (e : fmtV v = s) :
    s.data.toList.take (Go.Lib.itoa v.a).length = Go.Lib.itoa v.a ∧ s.data.toList[(Go.Lib.itoa v.a).length]? = some (sgn v.same) ∧ Go.Lib.cut (s.data.toList.drop ((Go.Lib.itoa v.a).length + 1)) [64] = (Go.Lib.itoa v.b, Go.Lib.itoa v.time, true) := by
  subst e
  rw [V_data h]
  refine ⟨by simp, by simp, ?_⟩
  have e1 : (Go.Lib.itoa v.a ++ sgn v.same :: (Go.Lib.itoa v.b ++ 64 :: Go.Lib.itoa v.time)).drop ((Go.Lib.itoa v.a).length + 1) = Go.Lib.itoa v.b ++ 64 :: Go.Lib.itoa v.time := by
    rw [← List.drop_drop, List.drop_left]; rfl
  rw [e1, libcut_hit (itoa_64 _)]
theorem pV_A3 {s : ByteArray} {i : Nat} {x : UInt8} (hi : ∀ v, okV v = true → fmtV v = s → (Go.Lib.itoa v.a).length = i) (hx : s.data.toList[i]? = some x) :
    ∀ v, okV v = true → fmtV v = s → v = ⟨(pI (bs (s.data.toList.take i))).1, (pI (bs (Go.Lib.cut (s.data.toList.drop (i + 1)) [64]).1)).1, x == 61, (pI (bs (Go.Lib.cut (s.data.toList.drop (i + 1)) [64]).2.1)).1⟩ ∧
      (pI (bs (s.data.toList.take i))).2 = true ∧ (pI (bs (Go.Lib.cut (s.data.toList.drop (i + 1)) [64]).1)).2 = true ∧ (pI (bs (Go.Lib.cut (s.data.toList.drop (i + 1)) [64]).2.1)).2 = true := fun v h1 h2 => by
  obtain ⟨t1, t2, t3⟩ := V_road h1 h2
  have hl := hi v h1 h2
  rw [hl] at t1 t2 t3
  obtain ⟨r1, r2, r3⟩ := okV_r h1
  have ex := Option.some.inj (hx.symm.trans t2)
  rw [t1, t3, r1, r2, r3, ex]
  refine ⟨?_, rfl, rfl, rfl⟩
  have es : (sgn v.same == 61) = v.same := by cases v.same <;> decide
  rw [es]
end Go.Proofs.YtfieimmlcopbhaaGreatDoor

namespace Go.Proofs.YtfieimmlcopbhaaGreatDoor
open Go.RowKit
theorem infoVer : (Tryz.prog.info? 26).map (fun i => (i.zero, i.size, i.bytes)) = some (some (.agg #[.int .i64 0, .int .i64 0, .bool false, .int .i64 0]), 4, 32) := by kernel_rfl
def verZ : List Value := [.int .i64 0, .int .i64 0, .bool false, .int .i64 0]
end Go.Proofs.YtfieimmlcopbhaaGreatDoor

namespace Go.Proofs.YtfieimmlcopbhaaGreatDoor
open Go.RowKit

def recID (r : Record) : Int := wrap64 (wrap64 (100 * r.source) + r.key)

set_option maxHeartbeats 400000 in
theorem spec_RecordID (v : Value) (r : Record) (w : World) (h : RecAt w v r) :
    Calls Tryz.prog 27 #[v] w fun e w2 => e = .returned (.int .i64 (recID r)) ∧ Ext w w2 := by
  obtain ⟨f, rfl, hok, hs⟩ := h
  go_enter Tryz.func27, Tryz.ntmps27
  go_wp2
  go_ret
  exact ⟨rfl, (by repeat (first | with_reducible exact Ext.refl _ | with_reducible assumption | with_reducible refine Ext.drew ?_ | with_reducible refine Ext.alloc ?_ _ | with_reducible refine Ext.trans ?_ (by with_reducible assumption)))⟩

set_option maxHeartbeats 400000 in
theorem impl_RecordID (v : Value) (r : Record) (w : World) (h : RecAt w v r) :
    Calls Tryz.prog 26 #[v] w fun e w2 => e = .returned (.int .i64 (recID r)) ∧ Ext w w2 := by
  obtain ⟨f, rfl, hok, hs⟩ := h
  go_enter Tryz.func26, Tryz.ntmps26
  go_wp2
  go_ret
  exact ⟨rfl, (by repeat (first | with_reducible exact Ext.refl _ | with_reducible assumption | with_reducible refine Ext.drew ?_ | with_reducible refine Ext.alloc ?_ _ | with_reducible refine Ext.trans ?_ (by with_reducible assumption)))⟩
end Go.Proofs.YtfieimmlcopbhaaGreatDoor

namespace Go.Proofs.YtfieimmlcopbhaaGreatDoor
open Go.RowKit

theorem ver_cases (x y : Verdict) : (x = y ∧ (x.a == y.a) = true ∧ (x.b == y.b) = true ∧ (x.same == y.same) = true ∧ (x.time == y.time) = true) ∨
    (¬ x = y ∧ ((x.a == y.a) = false ∨ ((x.a == y.a) = true ∧ (x.b == y.b) = false) ∨ ((x.a == y.a) = true ∧ (x.b == y.b) = true ∧ (x.same == y.same) = false) ∨ ((x.a == y.a) = true ∧ (x.b == y.b) = true ∧ (x.same == y.same) = true ∧ (x.time == y.time) = false))) := by
  by_cases h1 : x.a = y.a
  · by_cases h2 : x.b = y.b
    · by_cases h3 : x.same = y.same
      · by_cases h4 : x.time = y.time
        · exact .inl ⟨(Verdict.eta x y).2 ⟨h1, h2, h3, h4⟩, by simp [h1], by simp [h2], by simp [h3], by simp [h4]⟩
        · exact .inr ⟨fun e => h4 (by rw [e]), .inr (.inr (.inr ⟨by simp [h1], by simp [h2], by simp [h3], by simp [h4]⟩))⟩
      · exact .inr ⟨fun e => h3 (by rw [e]), .inr (.inr (.inl ⟨by simp [h1], by simp [h2], by simp [h3]⟩))⟩
    · exact .inr ⟨fun e => h2 (by rw [e]), .inr (.inl ⟨by simp [h1], by simp [h2]⟩)⟩
  · exact .inr ⟨fun e => h1 (by rw [e]), .inl (by simp [h1])⟩

end Go.Proofs.YtfieimmlcopbhaaGreatDoor

namespace Go.Proofs.YtfieimmlcopbhaaGreatDoor
open Go.RowKit

/-- the digits of a number, ahead of a text -/
def mtL : Nat → Nat → ByteArray → ByteArray
  | 0, _, s => s
  | f + 1, j, s => if j = 0 then s else mtL f (j / 10) (⟨#[UInt8.ofNat (48 + (j : Int) % 10).toNat]⟩ ++ s)
def mkT (k : Int) : ByteArray := if k ≤ 0 then ⟨#[109, 48]⟩ else ⟨#[109]⟩ ++ mtL k.toNat k.toNat ⟨#[]⟩
theorem mtL_zero (f : Nat) (s : ByteArray) : mtL f 0 s = s := by cases f <;> rfl
theorem mtL_step {f j : Nat} {s : ByteArray} (hj : 0 < j) (hf : j ≤ f) : ∃ f2, j / 10 ≤ f2 ∧ mtL f j s = mtL f2 (j / 10) (⟨#[UInt8.ofNat (48 + (j : Int) % 10).toNat]⟩ ++ s) := by
  cases f with
  | zero => omega
  | succ f =>
    refine ⟨f, by omega, ?_⟩
    rw [mtL, if_neg (by omega)]
theorem mkT_pos {k : Int} (h : ¬ k ≤ 0) : mkT k = ⟨#[109]⟩ ++ mtL k.toNat k.toNat ⟨#[]⟩ := by unfold mkT; rw [if_neg h]
theorem mkT_no {k : Int} (h : k ≤ 0) : mkT k = ⟨#[109, 48]⟩ := by unfold mkT; rw [if_pos h]

set_option maxHeartbeats 400000 in
set_option maxRecDepth 20000 in
theorem markText_t (k : Int) (w : World) (h0 : 0 ≤ k) (h1 : k ≤ 1152921504606846976) :
    Calls Tryz.prog 136 #[.int .i64 k] w fun e w2 => e = .returned (.string (mkT k)) ∧ (mkT k).size ≤ maxLen ∧ Ext w w2 := by
  by_cases hz : k ≤ 0
  · have HM := hid (mkT_no hz)
    go_enter Tryz.func136, Tryz.ntmps136
    go_wp2
    go_ret
    exact ⟨by rw [HM.out]; rfl, by rw [HM.out]; decide, Ext.refl _⟩
  · have HM := hid (mkT_pos hz)
    go_enter Tryz.func136, Tryz.ntmps136
    go_wp2
    go_loopw [0, 3] (fun n o wr => ∃ (j : Nat) (s : ByteArray), n = .int .i64 j ∧ o = .string s ∧ s.size + j ≤ 1152921504606846976 ∧ (∃ f, j ≤ f ∧ mtL f j s = mtL k.toNat k.toNat ⟨#[]⟩) ∧ Ext w wr) (fun n _ _ => (intOf n).toNat)
    case atStart => exact ⟨k.toNat, ByteArray.empty, by rw [Int.toNat_of_nonneg h0], rfl, by simp; omega, ⟨k.toNat, Nat.le_refl _, rfl⟩, Ext.refl _⟩
    case round =>
      obtain ⟨j, s, rfl, rfl, hs, hm, hx⟩ := hrel
      have HMT := hid hm
      clear hm
      by_cases hj : 0 < j
      · have hcv : (convert 43 9 (.slice (some ⟨wr.heap.size, 0, none⟩) 1 1)).run Tryz.prog (wr.alloc (.cells #[.int .u8 (48 + (j : Int) % 10)] 5)) = .ok (.string ⟨#[UInt8.ofNat (48 + (j : Int) % 10).toNat]⟩) (wr.alloc (.cells #[.int .u8 (48 + (j : Int) % 10)] 5)) :=
          run_convert_bytes_back (P := Tryz.prog) (wr.alloc (.cells #[.int .u8 (48 + (j : Int) % 10)] 5)) 43 9 5 ⟨wr.heap.size, 0, none⟩ 1 [UInt8.ofNat (48 + (j : Int) % 10).toNat] Tryz.underlying43 Tryz.underlying5 Tryz.underlying9 (fun i hi => by
            have hi0 : i = 0 := by simpa using hi
            subst hi0
            have hu : (UInt8.ofNat (48 + (j : Int) % 10).toNat).toNat = (48 + (j : Int) % 10).toNat := by simp; omega
            have e := (Ext.refl (wr.alloc (.cells #[.int .u8 (48 + (j : Int) % 10)] 5))).box.1 0
            rw [add_eq, Nat.zero_add]
            simp only [List.getElem_cons_zero, hu]
            rw [e, Int.toNat_of_nonneg (by omega)]
            rfl)
        have hnew : Hid (∃ f, j / 10 ≤ f ∧ mtL f (j / 10) (⟨#[UInt8.ofNat (48 + (j : Int) % 10).toNat]⟩ ++ s) = mtL k.toNat k.toNat ⟨#[]⟩) := by
          obtain ⟨f, hf, e⟩ := HMT.out
          obtain ⟨f2, hf2, e2⟩ := mtL_step (s := s) hj hf
          exact hid ⟨f2, hf2, e2 ▸ e⟩
        have HL := hid (show (j : Int) / 10 < j by omega)
        have hs2 : s.size ≤ 1152921504606846976 := by omega
        generalize hx9 : UInt8.ofNat (48 + (j : Int) % 10).toNat = x9 at hcv hnew
        clear hx9
        have hsz : (⟨#[x9]⟩ : ByteArray).size = 1 := rfl
        go_wp2
        go_roundw
        case rel => exact ⟨j / 10, ⟨#[x9]⟩ ++ s, by go_num, rfl, by rw [ByteArray.size_append, hsz]; omega, hnew.out, hx.alloc _⟩
        case measure => have := HL.out; simp [intOf]; omega
      · have hj0 : Hid (mkT k = ⟨#[109]⟩ ++ s) := by
          obtain ⟨f, hf, e⟩ := HMT.out
          have : j = 0 := by omega
          subst this
          rw [mtL_zero] at e
          exact hid (by rw [HM.out, ← e])
        go_wp2
        go_ret
        exact ⟨by rw [hj0.out]; rfl, by rw [hj0.out, ByteArray.size_append]; unfold maxLen; have : (⟨#[109]⟩ : ByteArray).size = 1 := rfl; omega, hx⟩

theorem OwnSl.str_store {w : World} {v : Value} {xs : List ByteArray} {F : List Nat} (h : OwnSl strO w v xs F) (hN : F.Nodup) {i : Nat} (hi : i < xs.length) : ∃ g off cap, v = .slice (some ⟨g, off, none⟩) xs.length cap ∧ g ∈ F ∧
    w.cell? ⟨g, off + i, none⟩ = some (.string xs[i]) ∧ w.frozen? ⟨g, off + i, none⟩ = false ∧ ∀ x : ByteArray, x.size ≤ maxLen → OwnSl strO (w.setCell ⟨g, off + i, none⟩ (.string x)) v (xs.set i x) F := by
  obtain ⟨g, off, cap, c, F1, rfl, hg, _, _, _, ⟨⟨rfl, _⟩, rfl⟩, _, hc, hf, _, hst⟩ := h.elem hN hi
  have h1 : strO.n = 1 := rfl
  refine ⟨g, off, cap, rfl, hg, ?_, hf _, fun x hx => ?_⟩
  · simpa [h1] using hc 0 (by omega)
  · have := hst 0 (.string x) x (by omega) ⟨⟨rfl, hx⟩, rfl⟩
    simpa [h1] using this

/-- the marks of k, of k + 1 and so on -/
def MkS (k : Int) (ys : List ByteArray) : Prop := ∀ i, i < ys.length → ys[i]? = some (mkT (k + i))

set_option maxHeartbeats 400000 in
theorem markStringS_t (v : Value) (xs : List ByteArray) (F : List Nat) (k : Int) (w : World) (h : OwnSl strO w v xs F) (hN : F.Nodup) (h0 : 0 ≤ k) (hb : k + xs.length ≤ 1152921504606846976) :
    Calls Tryz.prog 100 #[v, .int .i64 k] w fun e w2 => ∃ ys, e = .returned (.int .i64 (k + xs.length)) ∧ OwnSl strO w2 v ys F ∧ ys.length = xs.length ∧ MkS k ys ∧ Chg F w w2 := by
  obtain ⟨A, cap, rfl, hm⟩ := h.form
  go_enter Tryz.func100, Tryz.ntmps100
  go_wp2
  go_loopw [1, 5] (fun l i wr => ∃ (j : Nat) (ys : List ByteArray), j ≤ xs.length ∧ i = .int .i64 j ∧ l = .int .i64 (k + j) ∧ OwnSl strO wr (.slice A xs.length cap) ys F ∧ Hid (ys.length = xs.length) ∧ Hid (∀ i, i < j → ys[i]? = some (mkT (k + i))) ∧ Chg F w wr) (fun _ i _ => xs.length - (intOf i).toNat)
  case atStart => exact ⟨0, xs, Nat.zero_le _, rfl, by simp, h, hid rfl, hid (fun i hi => absurd hi (Nat.not_lt_zero _)), .refl _ _⟩
  case round =>
    obtain ⟨j, ys, hj, rfl, rfl, ho, hy, hmk, hc⟩ := hrel
    by_cases hlt : j < xs.length
    · go_wp2_with fail
      refine (markText_t (k + j) _ (by omega) (by omega)).mono ?_
      rintro e w2 ⟨rfl, hs, x2⟩
      have ho2 := ho.ext x2
      obtain ⟨g, off, cap2, e, hg, hcell, hfr, hst⟩ := ho2.str_store hN (i := j) (by rw [hy.out]; exact hlt)
      injection e with e1 e2 e3
      subst e1
      have HS := hid (hst (mkT (k + j)) hs)
      have hnew : Hid (∀ i, i < j + 1 → (ys.set j (mkT (k + j)))[i]? = some (mkT (k + i))) := hid (fun i hi => by
        rw [List.getElem?_set]
        by_cases e : j = i
        · subst e
          rw [if_pos rfl, if_pos (by rw [hy.out]; exact hlt)]
        · rw [if_neg e]
          exact hmk.out i (by omega))
      have hlt2 := hc.trans (Chg.of_ext x2)
      clear hst e2 e3
      go_wp2
      go_roundw
      case rel => exact ⟨j + 1, _, by omega, by go_num, by go_num, HS.out, hid (by rw [List.length_set]; exact hy.out), hnew, hlt2.setCell hg _⟩
      case measure => simp [intOf]; omega
    · go_wp2
      go_ret
      exact ⟨ys, ret_int (by omega), ho, hy.out, (fun i hi => hmk.out i (by have := hy.out; omega)), hc⟩

set_option maxHeartbeats 400000 in
set_option maxRecDepth 20000 in
theorem heldStringS_c (v : Value) (ys : List ByteArray) (k : Int) (w : World) (h : Sl strR w v ys) (hi : MkS k ys) (h0 : 0 ≤ k) (hb : k + ys.length ≤ 1152921504606846976) :
    Calls Tryz.prog 101 #[v, .int .i64 k] w fun e w2 => e = .returned (.int .i64 (k + ys.length)) ∧ Ext w w2 := by
  obtain ⟨A, cap, rfl, hm⟩ := h.form
  go_enter Tryz.func101, Tryz.ntmps101
  go_wp2
  go_loopw [1, 5] (fun l i wr => ∃ j : Nat, j ≤ ys.length ∧ i = .int .i64 j ∧ l = .int .i64 (k + j) ∧ Ext w wr) (fun _ i _ => ys.length - (intOf i).toNat)
  case atStart => exact ⟨0, Nat.zero_le _, rfl, by simp, Ext.refl _⟩
  case round =>
    obtain ⟨j, hj, rfl, rfl, hx⟩ := hrel
    by_cases hlt : j < ys.length
    · obtain ⟨b, off, rfl, hb1, hc⟩ := h.str hlt
      have hv := hi j hlt
      rw [List.getElem?_eq_getElem hlt] at hv
      injection hv with hv
      rw [hv] at hc
      clear hv
      have z0 : ∀ z : ExtOf wr, z.1.cell? ⟨b, off + j, none⟩ = some (.string (mkT (k + j))) := fun z => (hx.trans z.2).cell hc
      clear hc
      go_wp2_with fail
      refine wp_region_ext (by kernel_rfl) (by kernel_rfl) ?_
      repeat (go_big_quiet_step (((go_at_call 136; exact quiet_ext ((markText_t _ _ (by omega) (by omega)).mono fun e w2 h => ⟨h.1, h.2.2⟩)))))
      refine wpQuiet_nil ?_
      rintro w5 ⟨⟨_, x5⟩, rfl⟩
      go_wp2
      go_roundw
      case rel => exact ⟨j + 1, by omega, by go_num, by go_num, hx.trans x5⟩
      case measure => simp [intOf]; omega
    · go_wp2
      go_ret
      exact ⟨ret_int (by omega), hx⟩
def recSum (xs : List Record) : Nat := (xs.map fun r => 3 + r.fields.length).sum
theorem recSum_step (xs : List Record) (i : Nat) (h : i < xs.length) : recSum (xs.take (i + 1)) = recSum (xs.take i) + (3 + xs[i].fields.length) := by
  rw [List.take_succ_eq_append_getElem h]; unfold recSum; rw [List.map_append, List.sum_append]; simp
theorem recSum_le (xs : List Record) (i : Nat) : recSum (xs.take i) ≤ recSum xs := by
  have h := List.take_append_drop i xs
  have : recSum xs = recSum (xs.take i) + recSum (xs.drop i) := by
    unfold recSum; rw [← List.sum_append, ← List.map_append, h]
  omega
theorem recSum_ms (xs : List Record) : recSum xs ≤ 3 * (xs.length + sumBy msRec xs) := by
  unfold recSum sumBy
  induction xs with
  | nil => simp
  | cons x xs ih =>
    simp only [List.map_cons, List.sum_cons, List.length_cons] at ih ⊢
    have : x.fields.length ≤ msRec x := by unfold msRec; omega
    omega

theorem OwnSl.rec_at {w : World} {v : Value} {xs : List Record} {F : List Nat} (h : OwnSl recordO w v xs F) (hN : F.Nodup) {i : Nat} (hi : i < xs.length) : ∃ g off cap m F1, v = .slice (some ⟨g, off, none⟩) xs.length cap ∧ g ∈ F ∧ (∀ o, w.frozen? ⟨g, o, none⟩ = false) ∧
    (w.cell? ⟨g, off + i * 4, none⟩ = some (.int .i64 xs[i].source) ∧ w.cell? ⟨g, off + i * 4 + 1, none⟩ = some (.int .i64 xs[i].key) ∧ w.cell? ⟨g, off + i * 4 + 2, none⟩ = some (.int .i64 xs[i].version) ∧ w.cell? ⟨g, off + i * 4 + 3, none⟩ = some m) ∧
    (∀ u, I64 u → OwnSl recordO (w.setCell ⟨g, off + i * 4, none⟩ (.int .i64 u)) v (xs.set i ⟨u, xs[i].key, xs[i].version, xs[i].fields⟩) F) ∧
    (∀ u, I64 u → OwnSl recordO (w.setCell ⟨g, off + i * 4 + 1, none⟩ (.int .i64 u)) v (xs.set i ⟨xs[i].source, u, xs[i].version, xs[i].fields⟩) F) ∧
    (∀ u, I64 u → OwnSl recordO (w.setCell ⟨g, off + i * 4 + 2, none⟩ (.int .i64 u)) v (xs.set i ⟨xs[i].source, xs[i].key, u, xs[i].fields⟩) F) ∧
    (∀ b ∈ F1, b ∈ F) ∧ F1.Nodup ∧ OwnSl strO w m xs[i].fields F1 ∧
    ∀ w2 zs, (∀ b ∈ F, b ∉ F1 → w2.heap[b]? = w.heap[b]?) → OwnSl strO w2 m zs F1 → OwnSl recordO w2 v (xs.set i ⟨xs[i].source, xs[i].key, xs[i].version, zs⟩) F := by
  obtain ⟨g, off, cap, c, F1, rfl, hg, hsub, hng, hN1, ⟨m, rfl, hI, hm⟩, _, hc, hf, hin, hst⟩ := h.elem hN hi
  have h1 : recordO.n = 4 := rfl
  rw [h1] at hc hst
  have hmk : ∀ o u, OwnSl strO (w.setCell ⟨g, o, none⟩ u) m xs[i].fields F1 := fun o u => hm.keep fun b hb => keep_setCell fun e => hng (by have e2 : b = g := e; exact e2 ▸ hb)
  refine ⟨g, off, cap, m, F1, rfl, hg, hf, ⟨by (have := hc 0 (by omega)); rw [Nat.add_zero] at this; exact this, hc 1 (by omega), hc 2 (by omega), hc 3 (by omega)⟩, fun u hu => ?_, fun u hu => ?_, fun u hu => ?_, hsub, hN1, hm, fun w2 zs hk hz => ?_⟩
  · have := hst 0 (.int .i64 u) ⟨u, xs[i].key, xs[i].version, xs[i].fields⟩ (by omega) ⟨m, rfl, ⟨hu, hI.2⟩, hmk _ _⟩
    simpa using this
  · exact hst 1 (.int .i64 u) ⟨xs[i].source, u, xs[i].version, xs[i].fields⟩ (by omega) ⟨m, rfl, ⟨hI.1, hu, hI.2.2⟩, hmk _ _⟩
  · exact hst 2 (.int .i64 u) ⟨xs[i].source, xs[i].key, u, xs[i].fields⟩ (by omega) ⟨m, rfl, ⟨hI.1, hI.2.1, hu⟩, hmk _ _⟩
  · exact hin w2 ⟨xs[i].source, xs[i].key, xs[i].version, zs⟩ hk ⟨m, rfl, hI, hz⟩

theorem rec_three {W : World} {v : Value} {ys : List Record} {F : List Nat} {j : Nat} {K : Int} (ho : OwnSl recordO W v ys F) (hN : F.Nodup) (hjy : j < ys.length) (hK0 : 0 ≤ K) (hK1 : K ≤ 1152921504606846976) :
    ∃ g off cap m F3, v = .slice (some ⟨g, off, none⟩) ys.length cap ∧ g ∈ F ∧ (∀ o, W.frozen? ⟨g, o, none⟩ = false) ∧
      (W.cell? ⟨g, off + j * 4, none⟩ = some (.int .i64 ys[j].source) ∧ W.cell? ⟨g, off + j * 4 + 1, none⟩ = some (.int .i64 ys[j].key) ∧ W.cell? ⟨g, off + j * 4 + 2, none⟩ = some (.int .i64 ys[j].version) ∧ W.cell? ⟨g, off + j * 4 + 3, none⟩ = some m) ∧
      (∀ b ∈ F3, b ∈ F) ∧ F3.Nodup ∧ OwnSl strO (((W.setCell ⟨g, off + j * 4, none⟩ (.int .i64 K)).setCell ⟨g, off + j * 4 + 1, none⟩ (.int .i64 (K + 1))).setCell ⟨g, off + j * 4 + 2, none⟩ (.int .i64 (K + 1 + 1))) m ys[j].fields F3 ∧
      ∀ w2 zs, (∀ b ∈ F, b ∉ F3 → w2.heap[b]? = (((W.setCell ⟨g, off + j * 4, none⟩ (.int .i64 K)).setCell ⟨g, off + j * 4 + 1, none⟩ (.int .i64 (K + 1))).setCell ⟨g, off + j * 4 + 2, none⟩ (.int .i64 (K + 1 + 1))).heap[b]?) → OwnSl strO w2 m zs F3 → OwnSl recordO w2 v (ys.set j ⟨K, K + 1, K + 1 + 1, zs⟩) F := by
  obtain ⟨g, off, cap2, m, F1, rfl, hg, hfr, hcs, s0, _, _, _, _, _, _⟩ := ho.rec_at hN hjy
  have c3 := hcs.2.2.2
  have o1 := s0 K (by unfold I64; omega)
  have hy1 : j < (ys.set j ⟨K, ys[j].key, ys[j].version, ys[j].fields⟩).length := by rw [List.length_set]; exact hjy
  obtain ⟨g1, off1, cap1, m1, _, e, _, _, ⟨_, _, _, _⟩, _, s1, _, _, _, _, _⟩ := o1.rec_at hN hy1
  injection e with e1 e2 e3
  injection e1 with e1
  injection e1 with e1 e4 _
  subst e1; subst e4
  clear e2 e3
  have o2 := s1 (K + 1) (by unfold I64; omega)
  simp only [List.getElem_set_self, List.set_set] at o2
  have hy2 : j < (ys.set j ⟨K, K + 1, ys[j].version, ys[j].fields⟩).length := by rw [List.length_set]; exact hjy
  obtain ⟨g1, off1, cap1, m2, _, e, _, _, ⟨_, _, _, _⟩, _, _, s2, _, _, _, _⟩ := o2.rec_at hN hy2
  injection e with e1 e2 e3
  injection e1 with e1
  injection e1 with e1 e4 _
  subst e1; subst e4
  clear e2 e3
  have o3 := s2 (K + 1 + 1) (by unfold I64; omega)
  simp only [List.getElem_set_self, List.set_set] at o3
  have hy3 : j < (ys.set j ⟨K, K + 1, K + 1 + 1, ys[j].fields⟩).length := by rw [List.length_set]; exact hjy
  obtain ⟨g1, off1, cap1, m3, F3, e, _, _, ⟨_, _, _, c3'⟩, _, _, _, hsub, hN3, hm3, hin⟩ := o3.rec_at hN hy3
  injection e with e1 e2 e3
  injection e1 with e1
  injection e1 with e1 e4 _
  subst e1; subst e4
  clear e2 e3
  simp only [List.getElem_set_self, List.set_set] at hm3 hin
  have q2 := World.cell?_setCell_other (w := (W.setCell ⟨g, off + j * 4, none⟩ (.int .i64 K)).setCell ⟨g, off + j * 4 + 1, none⟩ (.int .i64 (K + 1))) (v := .int .i64 (K + 1 + 1)) (a := ⟨g, off + j * 4 + 2, none⟩) (b := ⟨g, off + j * 4 + 3, none⟩) (fun e => by injection e with _ e _; omega)
  have q1 := World.cell?_setCell_other (w := W.setCell ⟨g, off + j * 4, none⟩ (.int .i64 K)) (v := .int .i64 (K + 1)) (a := ⟨g, off + j * 4 + 1, none⟩) (b := ⟨g, off + j * 4 + 3, none⟩) (fun e => by injection e with _ e _; omega)
  have q0 := World.cell?_setCell_other (w := W) (v := .int .i64 K) (a := ⟨g, off + j * 4, none⟩) (b := ⟨g, off + j * 4 + 3, none⟩) (fun e => by injection e with _ e _; omega)
  have hmm : m3 = m := Option.some.inj (c3'.symm.trans (q2.trans (q1.trans (q0.trans c3))))
  subst m3
  exact ⟨g, off, cap2, m, F3, rfl, hg, hfr, hcs, hsub, hN3, hm3, hin⟩

end Go.Proofs.YtfieimmlcopbhaaGreatDoor

namespace Go.Proofs.YtfieimmlcopbhaaGreatDoor
open Go.RowKit

def cmpO (x y : Record) : Int := firstNZ [cmpI x.source y.source, cmpI x.key y.key]
def cmpR (x y : Record) : Int := firstNZ [cmpO x y, cmpI x.version y.version, cmpSL x.fields y.fields]
theorem firstNZ_cons (a : Int) (l : List Int) : firstNZ (a :: l) = if a = 0 then firstNZ l else a := by
  by_cases h : a = 0
  · rw [firstNZ, if_neg (by simpa using h), if_pos h]
  · rw [firstNZ, if_pos h, if_neg h]
theorem cmpO_zero {x y : Record} : cmpO x y = 0 ↔ x.source = y.source ∧ x.key = y.key := by
  unfold cmpO
  rw [firstNZ_cons, firstNZ_cons, firstNZ]
  rw [← cmpI_zero (a := x.source), ← cmpI_zero (a := x.key)]
  by_cases h1 : cmpI x.source y.source = 0
  · rw [if_pos h1]
    by_cases h2 : cmpI x.key y.key = 0
    · rw [if_pos h2]; exact ⟨fun _ => ⟨h1, h2⟩, fun _ => rfl⟩
    · rw [if_neg h2]; exact ⟨fun e => absurd e h2, fun e => absurd e.2 h2⟩
  · rw [if_neg h1]; exact ⟨fun e => absurd e h1, fun e => absurd e.1 h1⟩
theorem cmpR_zero {x y : Record} : cmpR x y = 0 ↔ x = y := by
  rw [Record.ext_iff4]
  unfold cmpR
  rw [firstNZ_cons, firstNZ_cons, firstNZ_cons, firstNZ]
  rw [← cmpI_zero (a := x.version), ← cmpSL_zero (xs := x.fields)]
  have h := cmpO_zero (x := x) (y := y)
  by_cases h1 : cmpO x y = 0
  · rw [if_pos h1]
    obtain ⟨h2, h3⟩ := h.1 h1
    by_cases h4 : cmpI x.version y.version = 0
    · rw [if_pos h4]
      by_cases h5 : cmpSL x.fields y.fields = 0
      · rw [if_pos h5]; exact ⟨fun _ => ⟨h2, h3, h4, h5⟩, fun _ => rfl⟩
      · rw [if_neg h5]; exact ⟨fun e => absurd e h5, fun e => absurd e.2.2.2 h5⟩
    · rw [if_neg h4]; exact ⟨fun e => absurd e h4, fun e => absurd e.2.2.1 h4⟩
  · rw [if_neg h1]; exact ⟨fun e => absurd e h1, fun e => absurd (h.2 ⟨e.1, e.2.1⟩) h1⟩
theorem firstNZ_bd : ∀ l : List Int, (∀ x ∈ l, I64 x) → I64 (firstNZ l)
  | [], _ => by simp [firstNZ, I64]
  | x :: l, h => by
    rw [firstNZ]; split
    · exact h x (List.mem_cons_self ..)
    · exact firstNZ_bd l fun y hy => h y (List.mem_cons_of_mem _ hy)
theorem cmpO_64 (x y : Record) : I64 (cmpO x y) := firstNZ_bd _ (by simp [cmpI_64])
theorem cmpR_64 (x y : Record) : I64 (cmpR x y) := firstNZ_bd _ (by simp [cmpI_64, cmpO_64, cmpSL_64])

set_option maxHeartbeats 400000 in
set_option maxRecDepth 20000 in
theorem impl_compareOrigins (v u : Value) (x y : Record) (w : World) (h : RecAt w v x) (k : RecAt w u y) :
    Calls Tryz.prog 67 #[v, u] w fun e w2 => e = .returned (.int .i64 (cmpO x y)) ∧ Ext w w2 := by
  obtain ⟨f, rfl, hok, hs⟩ := h
  obtain ⟨g, rfl, hok2, hs2⟩ := k
  go_enter Tryz.func67, Tryz.ntmps67
  go_wp2
  refine wp_region_still_tail 10 (by kernel_rfl) (by kernel_rfl) ?_
  simp only [List.take_succ_cons, List.take_zero, List.drop_succ_cons, List.drop_zero]
  change wpStill _ _ (World.drew _) _ _ _
  repeat (first | still_step | still_call (cmp_Compare _ _ _))
  refine wpStill_nil ?_
  change wpList _ _ _ _ _ (World.drew _)
  go_wp2_with fail
  refine (cmp_Or _ [cmpI x.source y.source, cmpI x.key y.key] _ ?_).mono ?_
  · exact (Sl.new_ints _ [cmpI x.source y.source, cmpI x.key y.key] _ _ _ (by simp) (by simp) (by simp [cmpI_64]) (by simp [maxLen])).mono (Ext.refl _).drew
  rintro e w2 ⟨rfl, rfl⟩
  go_wp2
  go_ret
  exact ⟨ret_int rfl, (by repeat (first | with_reducible exact Ext.refl _ | with_reducible assumption | with_reducible refine Ext.drew ?_ | with_reducible refine Ext.alloc ?_ _ | with_reducible refine Ext.trans ?_ (by with_reducible assumption)))⟩

set_option maxHeartbeats 400000 in
set_option maxRecDepth 20000 in
theorem impl_CompareRecords (v u : Value) (x y : Record) (w : World) (h : RecAt w v x) (k : RecAt w u y) :
    Calls Tryz.prog 22 #[v, u] w fun e w2 => e = .returned (.int .i64 (cmpR x y)) ∧ Ext w w2 := by
  obtain ⟨f, rfl, hok, hs⟩ := h
  obtain ⟨g, rfl, hok2, hs2⟩ := k
  have hS : ∀ W, Ext ((w.alloc (.cells #[.int .i64 x.source, .int .i64 x.key, .int .i64 x.version, f] 24)).alloc (.cells #[.int .i64 y.source, .int .i64 y.key, .int .i64 y.version, g] 24)) W →
      (∀ i, W.cell? ⟨w.heap.size, i, none⟩ = #[.int .i64 x.source, .int .i64 x.key, .int .i64 x.version, f][i]?) ∧ (∀ i, W.cell? ⟨w.heap.size + 1, i, none⟩ = #[.int .i64 y.source, .int .i64 y.key, .int .i64 y.version, g][i]?) :=
    fun W z => ⟨(((Ext.refl _).alloc _).trans z).box.1, z.box1.1⟩
  have HK := hid hS
  clear hS
  go_enter Tryz.func22, Tryz.ntmps22
  go_wp2_with fail
  go_region_held3 (fun w' => (∀ i, w'.cell? ⟨w.heap.size, i, none⟩ = #[.int .i64 x.source, .int .i64 x.key, .int .i64 x.version, f][i]?) ∧ (∀ i, w'.cell? ⟨w.heap.size + 1, i, none⟩ = #[.int .i64 y.source, .int .i64 y.key, .int .i64 y.version, g][i]?))
    (exact HK.out _ (by repeat (first | with_reducible exact Ext.refl _ | with_reducible assumption | with_reducible refine Ext.drew ?_ | with_reducible refine Ext.alloc ?_ _ | with_reducible refine Ext.trans ?_ (by with_reducible assumption))))
    (first | (go_at_call 67; refine (impl_compareOrigins _ _ x y _ ?ha ?hb).mono ?_; (case ha => exact ⟨_, rfl, hok, hs.mono (by repeat (first | with_reducible exact Ext.refl _ | with_reducible assumption | with_reducible refine Ext.drew ?_ | with_reducible refine Ext.alloc ?_ _ | with_reducible refine Ext.trans ?_ (by with_reducible assumption)))⟩); (case hb => exact ⟨_, rfl, hok2, hs2.mono (by repeat (first | with_reducible exact Ext.refl _ | with_reducible assumption | with_reducible refine Ext.drew ?_ | with_reducible refine Ext.alloc ?_ _ | with_reducible refine Ext.trans ?_ (by with_reducible assumption)))⟩); rintro e w5 ⟨rfl, x5⟩) | (go_at_call 68; refine (cmp_Compare _ _ _).mono ?_; rintro e w6 ⟨rfl, rfl⟩) | (go_at_call 69; refine (slices_Compare_s _ _ x.fields y.fields _ ?hc ?hd).mono ?_; (case hc => exact hs.mono (by repeat (first | with_reducible exact Ext.refl _ | with_reducible assumption | with_reducible refine Ext.drew ?_ | with_reducible refine Ext.alloc ?_ _ | with_reducible refine Ext.trans ?_ (by with_reducible assumption)))); (case hd => exact hs2.mono (by repeat (first | with_reducible exact Ext.refl _ | with_reducible assumption | with_reducible refine Ext.drew ?_ | with_reducible refine Ext.alloc ?_ _ | with_reducible refine Ext.trans ?_ (by with_reducible assumption)))); rintro e w7 ⟨rfl, rfl⟩) | (go_at_call 66; refine (cmp_Or _ [cmpO x y, cmpI x.version y.version, cmpSL x.fields y.fields] _ ?he).mono ?_; (case he => exact (Sl.new_ints _ [cmpO x y, cmpI x.version y.version, cmpSL x.fields y.fields] _ _ _ (by simp) (by simp) (by simp [cmpI_64, cmpO_64, cmpSL_64]) (by simp [maxLen]))); rintro e w8 ⟨rfl, rfl⟩))
  go_wp2
  go_ret
  exact ⟨ret_int rfl, (by repeat (first | with_reducible exact Ext.refl _ | with_reducible assumption | with_reducible refine Ext.drew ?_ | with_reducible refine Ext.alloc ?_ _ | with_reducible refine Ext.trans ?_ (by with_reducible assumption)))⟩

set_option maxHeartbeats 400000 in
theorem impl_equalRecords (v u : Value) (x y : Record) (w : World) (h : RecAt w v x) (k : RecAt w u y) :
    Calls Tryz.prog 81 #[v, u] w fun e w2 => e = .returned (.bool (eqB x y)) ∧ Ext w w2 := by
  obtain ⟨f, rfl, hok, hs⟩ := h
  obtain ⟨g, rfl, hok2, hs2⟩ := k
  have h64 := (cmpR_64 x y).out
  go_enter Tryz.func81, Tryz.ntmps81
  go_wp2_with fail
  refine (impl_CompareRecords _ _ x y _ ⟨_, rfl, hok, hs.mono (by repeat (first | with_reducible exact Ext.refl _ | with_reducible assumption | with_reducible refine Ext.drew ?_ | with_reducible refine Ext.alloc ?_ _ | (refine Ext.setCell ?_ (by simp) _) | with_reducible refine Ext.trans ?_ (by with_reducible assumption)))⟩ ⟨_, rfl, hok2, hs2.mono (by repeat (first | with_reducible exact Ext.refl _ | with_reducible assumption | with_reducible refine Ext.drew ?_ | with_reducible refine Ext.alloc ?_ _ | (refine Ext.setCell ?_ (by simp) _) | with_reducible refine Ext.trans ?_ (by with_reducible assumption)))⟩).mono ?_
  rintro e w2 ⟨rfl, x2⟩
  by_cases h0 : cmpR x y = 0
  · have h1 : (cmpR x y == 0) = true := by simp [h0]
    have H0 := hid h0
    clear h0
    go_wp2
    go_ret
    exact ⟨ret_bool (eqB_true (cmpR_zero.1 H0.out)).symm, (by repeat (first | with_reducible exact Ext.refl _ | with_reducible assumption | with_reducible refine Ext.drew ?_ | with_reducible refine Ext.alloc ?_ _ | (refine Ext.setCell ?_ (by simp) _) | with_reducible refine Ext.trans ?_ (by with_reducible assumption)))⟩
  · have h1 : (cmpR x y == 0) = false := by simp [h0]
    have H0 := hid h0
    clear h0
    go_wp2
    go_ret
    exact ⟨ret_bool (eqB_false fun e => H0.out (cmpR_zero.2 e)).symm, (by repeat (first | with_reducible exact Ext.refl _ | with_reducible assumption | with_reducible refine Ext.drew ?_ | with_reducible refine Ext.alloc ?_ _ | (refine Ext.setCell ?_ (by simp) _) | with_reducible refine Ext.trans ?_ (by with_reducible assumption)))⟩

/-- what the reference's walk knows at its loop -/
def cmpK (x y : Record) (K : Int) (j : Nat) : Prop := I64 K ∧ (K = 0 → firstNZ [cmpI x.source y.source, cmpI x.key y.key, cmpI x.version y.version] = 0 ∧ x.fields.take j = y.fields.take j) ∧ (K ≠ 0 → cmpR x y = K)
theorem fz_zero {a : Int} {l : List Int} (h : a = 0) : firstNZ (a :: l) = firstNZ l := by rw [firstNZ_cons, if_pos h]
theorem fz_pos {a : Int} {l : List Int} (h : ¬ a = 0) : firstNZ (a :: l) = a := by rw [firstNZ_cons, if_neg h]
theorem fz_one (d : Int) : firstNZ [d] = d := by
  by_cases h : d = 0
  · rw [fz_zero h]; exact h.symm
  · exact fz_pos h
theorem fz_join (a b : Int) (l : List Int) : firstNZ (firstNZ [a, b] :: l) = firstNZ (a :: b :: l) := by
  by_cases ha : a = 0
  · rw [fz_zero ha (l := [b]), fz_zero ha (l := b :: l), fz_one]
  · rw [fz_pos ha (l := [b]), fz_pos ha (l := b :: l), fz_pos ha]
theorem fz_all : ∀ {l : List Int}, firstNZ l = 0 → ∀ x ∈ l, x = 0
  | [], _, x, hx => by cases hx
  | a :: l, h, x, hx => by
    by_cases ha : a = 0
    · rw [fz_zero ha] at h
      rcases List.mem_cons.1 hx with rfl | hx
      · exact ha
      · exact fz_all h x hx
    · rw [fz_pos ha] at h; exact absurd h ha
theorem cmpR_heads (x y : Record) : cmpR x y = firstNZ [cmpI x.source y.source, cmpI x.key y.key, cmpI x.version y.version, cmpSL x.fields y.fields] := by
  unfold cmpR cmpO
  exact fz_join _ _ _
theorem cmpR_tail {x y : Record} (h : firstNZ [cmpI x.source y.source, cmpI x.key y.key, cmpI x.version y.version] = 0) : cmpR x y = cmpSL x.fields y.fields := by
  rw [cmpR_heads]
  have := firstNZ_append [cmpI x.source y.source, cmpI x.key y.key, cmpI x.version y.version] [cmpSL x.fields y.fields] (fz_all h)
  rw [fz_one] at this
  exact this
theorem cmpK_1 {x y : Record} (h : ¬ cmpI x.source y.source = 0) : cmpK x y (cmpI x.source y.source) 0 := ⟨cmpI_64 _ _, fun e => absurd e h, fun _ => by rw [cmpR_heads, firstNZ_cons, if_neg h]⟩
theorem cmpK_2 {x y : Record} (h : cmpI x.source y.source = 0) (h2 : ¬ cmpI x.key y.key = 0) : cmpK x y (cmpI x.key y.key) 0 := ⟨cmpI_64 _ _, fun e => absurd e h2, fun _ => by rw [cmpR_heads, firstNZ_cons, if_pos h, firstNZ_cons, if_neg h2]⟩
theorem cmpK_3 {x y : Record} (h : cmpI x.source y.source = 0) (h2 : cmpI x.key y.key = 0) : cmpK x y (cmpI x.version y.version) 0 := by
  refine ⟨cmpI_64 _ _, fun e => ⟨?_, rfl⟩, fun e => ?_⟩
  · rw [fz_zero h, fz_zero h2, fz_zero e]; rfl
  · rw [cmpR_heads, firstNZ_cons, if_pos h, firstNZ_cons, if_pos h2, firstNZ_cons, if_neg e]

set_option maxHeartbeats 400000 in
set_option maxRecDepth 100000 in
theorem spec_CompareRecords (v u : Value) (x y : Record) (w : World) (h : RecAt w v x) (k : RecAt w u y) :
    Calls Tryz.prog 23 #[v, u] w fun e w2 => e = .returned (.int .i64 (cmpR x y)) ∧ Ext w w2 := by
  obtain ⟨f, rfl, hok, hs⟩ := h
  obtain ⟨g, rfl, hok2, hs2⟩ := k
  clear hok hok2
  obtain ⟨A, cap, rfl, hm⟩ := hs.form
  obtain ⟨B, cap2, rfl, hm2⟩ := hs2.form
  have hS : ∀ W, Ext ((w.alloc (.cells #[.int .i64 x.source, .int .i64 x.key, .int .i64 x.version, .slice A x.fields.length cap] 24)).alloc (.cells #[.int .i64 y.source, .int .i64 y.key, .int .i64 y.version, .slice B y.fields.length cap2] 24)) W →
      W.cell? ⟨w.heap.size, 3, none⟩ = some (.slice A x.fields.length cap) ∧ W.cell? ⟨w.heap.size + 1, 3, none⟩ = some (.slice B y.fields.length cap2) :=
    fun W z => ⟨(((Ext.refl _).alloc _).trans z).box.1 3, z.box1.1 3⟩
  have HK := hid hS
  clear hS
  have n1 : (∃ K0, K0 = cmpI x.source y.source ∧ I64 K0) := ⟨_, rfl, cmpI_64 _ _⟩
  have n2 : (∃ K0, K0 = cmpI x.key y.key ∧ I64 K0) := ⟨_, rfl, cmpI_64 _ _⟩
  have n3 : (∃ K0, K0 = cmpI x.version y.version ∧ I64 K0) := ⟨_, rfl, cmpI_64 _ _⟩
  obtain ⟨c1, e1, i1⟩ := n1
  obtain ⟨c2, e2, i2⟩ := n2
  obtain ⟨c3, e3, i3⟩ := n3
  have E1 := hid e1
  have E2 := hid e2
  have E3 := hid e3
  clear e1 e2 e3
  have i1' := i1.out
  have i2' := i2.out
  have i3' := i3.out
  have start : ∃ K, (K = c1 ∧ ¬ c1 = 0 ∨ c1 = 0 ∧ K = c2 ∧ ¬ c2 = 0 ∨ c1 = 0 ∧ c2 = 0 ∧ K = c3) ∧ cmpK x y K 0 := by
    by_cases h1 : c1 = 0
    · by_cases h2 : c2 = 0
      · exact ⟨c3, .inr (.inr ⟨h1, h2, rfl⟩), E3.out ▸ cmpK_3 (E1.out ▸ h1) (E2.out ▸ h2)⟩
      · exact ⟨c2, .inr (.inl ⟨h1, rfl, h2⟩), E2.out ▸ cmpK_2 (E1.out ▸ h1) (E2.out ▸ h2)⟩
    · exact ⟨c1, .inl ⟨rfl, h1⟩, E1.out ▸ cmpK_1 (E1.out ▸ h1)⟩
  obtain ⟨K0, hway, hK0⟩ := start
  have HK0 := hid hK0
  clear hK0
  have part : ((c1 == 0) = false ∧ K0 = c1) ∨ ((c1 == 0) = true ∧ (c2 == 0) = false ∧ c1 = 0 ∧ K0 = c2) ∨ ((c1 == 0) = true ∧ (c2 == 0) = true ∧ c1 = 0 ∧ c2 = 0 ∧ K0 = c3) := by
    rcases hway with ⟨h1, h2⟩ | ⟨h1, h2, h3⟩ | ⟨h1, h2, h3⟩
    · exact .inl ⟨by simp [h2], h1⟩
    · exact .inr (.inl ⟨by simp [h1], by simp [h3], h1, h2⟩)
    · exact .inr (.inr ⟨by simp [h1], by simp [h2], h1, h2, h3⟩)
  clear hway
  rcases part with ⟨p1, p2⟩ | ⟨p1, p2, p3, p4⟩ | ⟨p1, p2, p3, p4, p5⟩
  all_goals
    try (have P3 := hid p3; clear p3)
    try (have P4 := hid p4; clear p4)
    go_enter Tryz.func23, Tryz.ntmps23
    go_wp2_with (go_at_call 70; refine (spec_l8Int _ _ _).mono ?_; rintro e w2 ⟨rfl, rfl⟩; first | rw [← E1.out] | rw [← E2.out] | rw [← E3.out])
  all_goals
    go_loopw [5, 6] (fun t i wr => ∃ (K : Int) (j : Nat), j ≤ x.fields.length ∧ j ≤ y.fields.length ∧ i = .int .i64 j ∧ t = .int .i64 K ∧ cmpK x y K j ∧ Ext ((w.alloc (.cells #[.int .i64 x.source, .int .i64 x.key, .int .i64 x.version, .slice A x.fields.length cap] 24)).alloc (.cells #[.int .i64 y.source, .int .i64 y.key, .int .i64 y.version, .slice B y.fields.length cap2] 24)) wr) (fun t i _ => (if intOf t = 0 then 1 else 0) + (x.fields.length - (intOf i).toNat))
  all_goals try (case atStart => exact ⟨_, 0, Nat.zero_le _, Nat.zero_le _, rfl, rfl, by first | exact HK0.out | (subst p2; exact HK0.out) | (rw [← P4.out]; exact HK0.out) | (rw [← p5]; exact HK0.out), Ext.refl _⟩)
  all_goals
    obtain ⟨K, j, hj1, hj2, rfl, rfl, hK, hx⟩ := hrel
    obtain ⟨ca, cb⟩ := HK.out _ hx
    have HKK := hid hK
    have hK64 := hK.1.out
    clear hK
    have xw : Ext w wr := ((((Ext.refl _).alloc _).alloc _)).trans hx
    by_cases hk0 : K = 0
    · subst hk0
      by_cases hlt : j < x.fields.length
      · by_cases hlt2 : j < y.fields.length
        · obtain ⟨b, off, rfl, hI, hc⟩ := (hs.mono xw).str hlt
          obtain ⟨b2, off2, rfl, hI2, hc2⟩ := (hs2.mono xw).str hlt2
          have ha1 : ∀ z : ExtOf wr, z.1.cell? ⟨w.heap.size, 3, none⟩ = _ := fun z => z.2.cell ca
          have ha2 : ∀ z : ExtOf wr, z.1.cell? ⟨w.heap.size + 1, 3, none⟩ = _ := fun z => z.2.cell cb
          have ha3 : ∀ z : ExtOf wr, z.1.cell? ⟨b, off + j, none⟩ = _ := fun z => z.2.cell hc
          have ha4 : ∀ z : ExtOf wr, z.1.cell? ⟨b2, off2 + j, none⟩ = _ := fun z => z.2.cell hc2
          cases hl : Op.bytesLess x.fields[j].toList y.fields[j].toList with
          | true =>
            have HN := hid (cmpS_lt hl)
            go_wp2_with fail
            refine wp_region_ext (by kernel_rfl) (by kernel_rfl) ?_
            repeat (go_big_quiet_step ((fail)))
            refine wpQuiet_nil ?_
            rintro w4 ⟨⟨_, x4⟩, rfl⟩
            have hb1 : ∀ z : ExtOf w4, z.1.cell? ⟨w.heap.size, 3, none⟩ = _ := fun z => (x4.trans z.2).cell ca
            have hb2 : ∀ z : ExtOf w4, z.1.cell? ⟨w.heap.size + 1, 3, none⟩ = _ := fun z => (x4.trans z.2).cell cb
            have hb3 : ∀ z : ExtOf w4, z.1.cell? ⟨b, off + j, none⟩ = _ := fun z => (x4.trans z.2).cell hc
            have hb4 : ∀ z : ExtOf w4, z.1.cell? ⟨b2, off2 + j, none⟩ = _ := fun z => (x4.trans z.2).cell hc2
            go_wp2_with fail
            refine wp_region_ext (by kernel_rfl) (by kernel_rfl) ?_
            repeat (go_big_quiet_step ((fail)))
            refine wpQuiet_nil ?_
            rintro w5 ⟨⟨_, x5⟩, rfl⟩
            go_wp2
            go_roundw
            case rel => exact ⟨-1, j + 1, by omega, by omega, by go_num, rfl, ⟨by simp [I64], fun e => (by omega), fun _ => by rw [cmpR_tail (HKK.out.2.1 rfl).1, cmpSL_at hlt hlt2 (HKK.out.2.1 rfl).2 (by rw [HN.out]; omega), HN.out]⟩, (hx.trans x4).trans x5⟩
            case measure => simp [intOf]; omega
          | false =>
            cases he : (x.fields[j].toList == y.fields[j].toList) with
            | true =>
              have HN := hid (toList_inj he)
              go_wp2_with fail
              refine wp_region_ext (by kernel_rfl) (by kernel_rfl) ?_
              repeat (go_big_quiet_step ((fail)))
              refine wpQuiet_nil ?_
              rintro w4 ⟨⟨_, x4⟩, rfl⟩
              have hb1 : ∀ z : ExtOf w4, z.1.cell? ⟨w.heap.size, 3, none⟩ = _ := fun z => (x4.trans z.2).cell ca
              have hb2 : ∀ z : ExtOf w4, z.1.cell? ⟨w.heap.size + 1, 3, none⟩ = _ := fun z => (x4.trans z.2).cell cb
              have hb3 : ∀ z : ExtOf w4, z.1.cell? ⟨b, off + j, none⟩ = _ := fun z => (x4.trans z.2).cell hc
              have hb4 : ∀ z : ExtOf w4, z.1.cell? ⟨b2, off2 + j, none⟩ = _ := fun z => (x4.trans z.2).cell hc2
              go_wp2_with fail
              refine wp_region_ext (by kernel_rfl) (by kernel_rfl) ?_
              repeat (go_big_quiet_step ((fail)))
              refine wpQuiet_nil ?_
              rintro w5 ⟨⟨_, x5⟩, rfl⟩
              go_wp2
              go_roundw
              case rel => exact ⟨0, j + 1, by omega, by omega, by go_num, rfl, ⟨by simp [I64], fun _ => ⟨(HKK.out.2.1 rfl).1, take_snoc_eq hlt hlt2 HN.out (HKK.out.2.1 rfl).2⟩, fun e => absurd rfl e⟩, (hx.trans x4).trans x5⟩
              case measure => simp [intOf]; omega
            | false =>
              have HN := hid (cmpS_gt hl he)
              go_wp2_with fail
              refine wp_region_ext (by kernel_rfl) (by kernel_rfl) ?_
              repeat (go_big_quiet_step ((fail)))
              refine wpQuiet_nil ?_
              rintro w4 ⟨⟨_, x4⟩, rfl⟩
              have hb1 : ∀ z : ExtOf w4, z.1.cell? ⟨w.heap.size, 3, none⟩ = _ := fun z => (x4.trans z.2).cell ca
              have hb2 : ∀ z : ExtOf w4, z.1.cell? ⟨w.heap.size + 1, 3, none⟩ = _ := fun z => (x4.trans z.2).cell cb
              have hb3 : ∀ z : ExtOf w4, z.1.cell? ⟨b, off + j, none⟩ = _ := fun z => (x4.trans z.2).cell hc
              have hb4 : ∀ z : ExtOf w4, z.1.cell? ⟨b2, off2 + j, none⟩ = _ := fun z => (x4.trans z.2).cell hc2
              go_wp2_with fail
              refine wp_region_ext (by kernel_rfl) (by kernel_rfl) ?_
              repeat (go_big_quiet_step ((fail)))
              refine wpQuiet_nil ?_
              rintro w5 ⟨⟨_, x5⟩, rfl⟩
              go_wp2
              go_roundw
              case rel => exact ⟨1, j + 1, by omega, by omega, by go_num, rfl, ⟨by simp [I64], fun e => (by omega), fun _ => by rw [cmpR_tail (HKK.out.2.1 rfl).1, cmpSL_at hlt hlt2 (HKK.out.2.1 rfl).2 (by rw [HN.out]; omega), HN.out]⟩, (hx.trans x4).trans x5⟩
              case measure => simp [intOf]; omega
        · go_wp2_with (go_at_call 70; refine (spec_l8Int _ _ _).mono ?_; rintro e w2 ⟨rfl, rfl⟩)
          go_ret
          exact ⟨ret_int (by rw [cmpR_tail (HKK.out.2.1 rfl).1, cmpSL_end hj1 hj2 (HKK.out.2.1 rfl).2 (by omega)]), xw⟩
      · go_wp2_with (go_at_call 70; refine (spec_l8Int _ _ _).mono ?_; rintro e w2 ⟨rfl, rfl⟩)
        go_ret
        exact ⟨ret_int (by rw [cmpR_tail (HKK.out.2.1 rfl).1, cmpSL_end hj1 hj2 (HKK.out.2.1 rfl).2 (by omega)]), xw⟩
    · have hk1 : (K == 0) = false := by simp [hk0]
      have HN := hid (HKK.out.2.2 hk0)
      clear hk0
      by_cases hlt : j < x.fields.length
      · by_cases hlt2 : j < y.fields.length
        · go_wp2
          go_ret
          exact ⟨ret_int HN.out.symm, xw⟩
        · go_wp2
          go_ret
          exact ⟨ret_int HN.out.symm, xw⟩
      · go_wp2
        go_ret
        exact ⟨ret_int HN.out.symm, xw⟩
end Go.Proofs.YtfieimmlcopbhaaGreatDoor

namespace Go.Proofs.YtfieimmlcopbhaaGreatDoor
open Go.RowKit

def sameO (x y : Record) : Bool := decide (x.source = y.source) && decide (x.key = y.key)

set_option maxHeartbeats 400000 in
theorem impl_SameOrigin (v u : Value) (x y : Record) (w : World) (h : RecAt w v x) (k : RecAt w u y) :
    Calls Tryz.prog 24 #[v, u] w fun e w2 => e = .returned (.bool (sameO x y)) ∧ Ext w w2 := by
  have hh := h
  have kk := k
  obtain ⟨f, rfl, hok, hs⟩ := h
  obtain ⟨f2, rfl, hok2, hs2⟩ := k
  go_enter Tryz.func24, Tryz.ntmps24
  go_wp2_with fail
  refine (impl_compareOrigins _ _ x y _ (hh.mono (by repeat (first | with_reducible exact Ext.refl _ | with_reducible assumption | with_reducible refine Ext.drew ?_ | with_reducible refine Ext.alloc ?_ _ | with_reducible refine Ext.trans ?_ (by with_reducible assumption)))) (kk.mono (by repeat (first | with_reducible exact Ext.refl _ | with_reducible assumption | with_reducible refine Ext.drew ?_ | with_reducible refine Ext.alloc ?_ _ | with_reducible refine Ext.trans ?_ (by with_reducible assumption))))).mono ?_
  rintro e w2 ⟨rfl, x2⟩
  by_cases h0 : cmpO x y = 0
  · have H0 := hid (show sameO x y = true by have := cmpO_zero.1 h0; unfold sameO; simp [this.1, this.2])
    rw [h0]
    clear h0
    go_wp2
    go_ret
    exact ⟨ret_bool H0.out.symm, (by repeat (first | with_reducible exact Ext.refl _ | with_reducible assumption | with_reducible refine Ext.drew ?_ | with_reducible refine Ext.alloc ?_ _ | with_reducible refine Ext.trans ?_ (by with_reducible assumption)))⟩
  · have H0 := hid (show sameO x y = false by
      cases hb : sameO x y with
      | false => rfl
      | true => unfold sameO at hb; simp at hb; exact absurd (cmpO_zero.2 hb) h0)
    have h1 : (cmpO x y == 0) = false := by simp [h0]
    clear h0
    go_wp2
    go_ret
    exact ⟨ret_bool H0.out.symm, (by repeat (first | with_reducible exact Ext.refl _ | with_reducible assumption | with_reducible refine Ext.drew ?_ | with_reducible refine Ext.alloc ?_ _ | with_reducible refine Ext.trans ?_ (by with_reducible assumption)))⟩

set_option maxHeartbeats 400000 in
theorem spec_SameOrigin (v u : Value) (x y : Record) (w : World) (h : RecAt w v x) (k : RecAt w u y) :
    Calls Tryz.prog 25 #[v, u] w fun e w2 => e = .returned (.bool (sameO x y)) ∧ Ext w w2 := by
  obtain ⟨f, rfl, hok, hs⟩ := h
  obtain ⟨f2, rfl, hok2, hs2⟩ := k
  by_cases h0 : x.source = y.source
  · have h1 : (x.source == y.source) = true := by simp [h0]
    by_cases h2 : x.key = y.key
    · have h3 : (x.key == y.key) = true := by simp [h2]
      have H0 := hid (show sameO x y = true by unfold sameO; simp [h0, h2])
      clear h0 h2
      go_enter Tryz.func25, Tryz.ntmps25
      go_wp2
      go_ret
      exact ⟨ret_bool H0.out.symm, (by repeat (first | with_reducible exact Ext.refl _ | with_reducible assumption | with_reducible refine Ext.drew ?_ | with_reducible refine Ext.alloc ?_ _ | with_reducible refine Ext.trans ?_ (by with_reducible assumption)))⟩
    · have h3 : (x.key == y.key) = false := by simp [h2]
      have H0 := hid (show sameO x y = false by unfold sameO; simp [h0, h2])
      clear h0 h2
      go_enter Tryz.func25, Tryz.ntmps25
      go_wp2
      go_ret
      exact ⟨ret_bool H0.out.symm, (by repeat (first | with_reducible exact Ext.refl _ | with_reducible assumption | with_reducible refine Ext.drew ?_ | with_reducible refine Ext.alloc ?_ _ | with_reducible refine Ext.trans ?_ (by with_reducible assumption)))⟩
  · have h1 : (x.source == y.source) = false := by simp [h0]
    have H0 := hid (show sameO x y = false by unfold sameO; simp [h0])
    clear h0
    go_enter Tryz.func25, Tryz.ntmps25
    go_wp2
    go_ret
    exact ⟨ret_bool H0.out.symm, (by repeat (first | with_reducible exact Ext.refl _ | with_reducible assumption | with_reducible refine Ext.drew ?_ | with_reducible refine Ext.alloc ?_ _ | with_reducible refine Ext.trans ?_ (by with_reducible assumption)))⟩
end Go.Proofs.YtfieimmlcopbhaaGreatDoor
