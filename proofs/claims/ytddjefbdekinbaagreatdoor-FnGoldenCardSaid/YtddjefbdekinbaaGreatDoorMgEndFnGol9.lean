/-
  SEVERAL SMALL TEXTS LAID TOGETHER: FmtR, RecF, VerS, DrawK, Vers, Cur, AppV, CloV, AppW, InsR.
-/
import Derived.Test.YtddjefbdekinbaaGreatDoorMgEndFnGol6
import Derived.Test.YtddjefbdekinbaaGreatDoorMgEndFnGol7
import Derived.Test.YtddjefbdekinbaaGreatDoorMgEndFnGol0
import Derived.Deep.RegionHeld3
import Derived.Test.YtddjefbdekinbaaGreatDoorMgEndFnGol8
import Derived.Laws.OwnMore
import Derived.Lib.SliceRun
import Derived.Deep.AppendLies
import Derived.Shelf.RegionOpenPlain
import Derived.Lib.Overlaps
import Derived.Lib.AppendZerosOnto
import Derived.Laws.Externs
import Derived.Laws.NewBlocks

namespace Go.Proofs.YtddjefbdekinbaaGreatDoor
open Go.RowKit

def letter (s : Int) : ByteArray := ⟨#[UInt8.ofNat (97 + s.toNat)]⟩
/-- the name of a record; its text -/
def orgN (s k : Int) : ByteArray := letter s ++ itoaS k
def recN (r : Record) : ByteArray := if okRec r = true then orgN r.source r.key else ⟨#[]⟩
def recT (r : Record) : ByteArray := orgN r.source r.key ++ ⟨#[46]⟩ ++ itoaS r.version ++ ⟨#[124]⟩ ++ joinS r.fields ⟨#[124]⟩
def fmtR (r : Record) : ByteArray := if okRec r = true then recT r else ⟨#[]⟩
theorem okH_bounds {r : Record} (h : okH r = true) : (0 ≤ r.source ∧ r.source ≤ 3) ∧ (1 ≤ r.key ∧ r.key ≤ 99) ∧ 1 ≤ r.version ∧ r.version ≤ 999 := by
  unfold okH inB at h
  simp only [Bool.and_eq_true, decide_eq_true_eq] at h
  exact ⟨h.1.1, h.1.2, h.2⟩
theorem okRec_H {r : Record} (h : okRec r = true) : okH r = true := by
  unfold okRec at h
  simp only [Bool.and_eq_true] at h
  exact h.1.1
theorem okRec_len {r : Record} (h : okRec r = true) : r.fields.length = 4 := by
  unfold okRec at h
  simp only [Bool.and_eq_true, beq_iff_eq] at h
  omega
theorem okRec_F {r : Record} (h : okRec r = true) : ∀ s ∈ r.fields, s.size ≤ 40 := fun s hs => by
  unfold okRec at h
  simp only [Bool.and_eq_true] at h
  have h1 := List.all_eq_true.1 h.2 s hs
  unfold okF okT at h1
  simp only [Bool.and_eq_true, decide_eq_true_eq] at h1
  exact h1.2.2
theorem letter_size (s : Int) : (letter s).size = 1 := rfl
theorem orgN_size {s k : Int} (h : I64 k) : (orgN s k).size ≤ 21 := by
  have := itoaS_size h
  unfold orgN
  rw [ByteArray.size_append, letter_size]; omega
theorem fields_size {r : Record} (h : okRec r = true) : (joinS r.fields ⟨#[124]⟩).size ≤ 164 := by
  have h1 := joinS_size 40 ⟨#[124]⟩ r.fields (okRec_F h)
  have e1 : (⟨#[124]⟩ : ByteArray).size = 1 := rfl
  rw [e1, okRec_len h] at h1
  omega

set_option maxHeartbeats 400000 in
set_option maxRecDepth 20000 in
theorem impl_originName (s k : Int) (w : World) (hs : 0 ≤ s ∧ s ≤ 3) (hk : I64 k) (T : Tab w) :
    Calls Tryz.prog 51 #[.int .i64 s, .int .i64 k] w fun e w2 => e = .returned (.string (orgN s k)) ∧ Ext w w2 := by
  have s1 := itoaS_size hk
  have TZ : ∀ q : ExtOf w, Tab q.1 := fun q => T.mono q.2
  have HK := hid hk
  clear hk
  have hc : s = 0 ∨ s = 1 ∨ s = 2 ∨ s = 3 := by omega
  clear hs
  rcases hc with rfl | rfl | rfl | rfl
  all_goals
    go_enter Tryz.func51, Tryz.ntmps51
    go_wp2_with fail
    refine wp_region_ext (by kernel_rfl) (by kernel_rfl) ?_
    repeat (go_big_quiet_step (((go_at_call 67; exact quiet_ext (impl_FormatInt _ _ HK.out (TZ _))))))
    refine wpQuiet_nil ?_
    rintro w1 ⟨⟨_, x1⟩, rfl⟩
    go_wp2
    go_ret
    exact ⟨rfl, (by repeat (first | with_reducible exact Ext.refl _ | with_reducible assumption | with_reducible refine Ext.drew ?_ | with_reducible refine Ext.alloc ?_ _ | with_reducible refine Ext.trans ?_ (by with_reducible assumption)))⟩

set_option maxHeartbeats 400000 in
set_option maxRecDepth 20000 in
theorem impl_RecordName (v : Value) (r : Record) (w : World) (h : RecAt w v r) (T : Tab w) :
    Calls Tryz.prog 32 #[v] w fun e w2 => e = .returned (.string (recN r)) ∧ Ext w w2 := by
  obtain ⟨f, rfl, hI, hs⟩ := h
  have HB := hid (show ∀ W, Ext (w.alloc (.cells #[.int .i64 r.source, .int .i64 r.key, .int .i64 r.version, f] 34)) W → W.cell? ⟨w.heap.size, 0, none⟩ = some (.int .i64 r.source) ∧ W.cell? ⟨w.heap.size, 1, none⟩ = some (.int .i64 r.key) from fun W z => ⟨z.box.1 0, z.box.1 1⟩)
  go_enter Tryz.func32, Tryz.ntmps32
  go_wp2_with fail
  refine (impl_IsValidRecord _ r _ ⟨_, rfl, hI, hs.mono (by repeat (first | with_reducible exact Ext.refl _ | with_reducible assumption | with_reducible refine Ext.drew ?_ | with_reducible refine Ext.alloc ?_ _ | (refine Ext.setCell ?_ (by simp) _) | with_reducible refine Ext.trans ?_ (by with_reducible assumption)))⟩).mono ?_
  rintro e w1 ⟨rfl, x1⟩
  obtain ⟨b0, b1⟩ := HB.out _ x1
  cases hok : okRec r with
  | false =>
    have hr := hid (show recN r = ⟨#[]⟩ by unfold recN; rw [if_neg (by simp [hok])])
    go_wp2
    go_ret
    exact ⟨by rw [hr.out]; rfl, (by repeat (first | with_reducible exact Ext.refl _ | with_reducible assumption | with_reducible refine Ext.drew ?_ | with_reducible refine Ext.alloc ?_ _ | with_reducible refine Ext.trans ?_ (by with_reducible assumption)))⟩
  | true =>
    have hr := hid (show recN r = orgN r.source r.key by unfold recN; rw [if_pos hok])
    have hb := hid (okH_bounds (okRec_H hok)).1
    have HI := hid hI
    clear hI hok
    go_wp2_with fail
    refine (impl_originName _ _ _ hb.out HI.out.2.1 (T.mono (by repeat (first | with_reducible exact Ext.refl _ | with_reducible assumption | with_reducible refine Ext.drew ?_ | with_reducible refine Ext.alloc ?_ _ | with_reducible refine Ext.trans ?_ (by with_reducible assumption))))).mono ?_
    rintro e w2 ⟨rfl, x2⟩
    go_wp2
    go_ret
    exact ⟨by rw [hr.out]; rfl, (by repeat (first | with_reducible exact Ext.refl _ | with_reducible assumption | with_reducible refine Ext.drew ?_ | with_reducible refine Ext.alloc ?_ _ | with_reducible refine Ext.trans ?_ (by with_reducible assumption)))⟩
end Go.Proofs.YtddjefbdekinbaaGreatDoor

namespace Go.Proofs.YtddjefbdekinbaaGreatDoor
open Go.RowKit

set_option maxHeartbeats 400000 in
theorem IndexFunc_rec (v : Value) (xs : List Record) (p : Record → Bool) (fn : FuncId) (cp : Array Value) (w : World) (h : Sl recordR w v xs)
    (hfn : ∀ (args : Array Value) (W : World), Sem.run Tryz.prog (callFunc fn args) W = .ok (.enter fn args) W)
    (hf : ∀ wz a x, Ext w wz → RecAt wz a x → Calls Tryz.prog fn (#[a] ++ cp) wz fun e w2 => e = .returned (.bool (p x)) ∧ Ext wz w2) :
    Calls Tryz.prog 68 #[v, .func (.func fn) #[] cp] w fun e w2 => e = .returned (.int .i64 (idxF p 0 xs)) ∧ Ext w w2 := by
  obtain ⟨A, cap, rfl, hm⟩ := h.form
  go_enter Tryz.func68, Tryz.ntmps68
  go_wp2
  go_loopw [8] (fun i wr => ∃ k : Nat, k ≤ xs.length ∧ i = .int .i64 k ∧ (∀ x ∈ xs.take k, p x = false) ∧ Ext w wr) (fun i _ => xs.length - (intOf i).toNat)
  case atStart => exact ⟨0, Nat.zero_le _, rfl, by simp, Ext.refl _⟩
  case round =>
    obtain ⟨k, hk, rfl, hz, hx⟩ := hrel
    have HZ := hid hz
    clear hz
    by_cases hlt : k < xs.length
    · obtain ⟨b, off, A2, cap2, rfl, hok, hsl, hc0, hc1, hc2, hc3⟩ := (h.mono hx).record hlt
      go_wp2_with fail
      refine (hf wr _ xs[k] hx ⟨_, rfl, hok, hsl⟩).mono ?_
      rintro e w2 ⟨rfl, x2⟩
      by_cases hp : p xs[k] = true
      · rw [hp]
        go_wp2
        go_ret
        exact ⟨ret_int (idxF_at p xs k hlt HZ.out hp).symm, hx.trans x2⟩
      · have hp' : p xs[k] = false := by simpa using hp
        have HP := hid hp'
        rw [hp']
        clear hp hp'
        go_wp2
        go_roundw
        case rel => exact ⟨k + 1, by omega, by go_num, take_snoc_all _ xs k hlt HZ.out HP.out, hx.trans x2⟩
        case measure => simp [intOf]; omega
    · go_wp2
      go_ret
      exact ⟨ret_int (idxF_all p xs k hlt HZ.out).symm, hx⟩

set_option maxHeartbeats 400000 in
theorem ContainsFunc_rec (v : Value) (xs : List Record) (p : Record → Bool) (fn : FuncId) (cp : Array Value) (w : World) (h : Sl recordR w v xs)
    (hfn : ∀ (args : Array Value) (W : World), Sem.run Tryz.prog (callFunc fn args) W = .ok (.enter fn args) W)
    (hf : ∀ wz a x, Ext w wz → RecAt wz a x → Calls Tryz.prog fn (#[a] ++ cp) wz fun e w2 => e = .returned (.bool (p x)) ∧ Ext wz w2) :
    Calls Tryz.prog 52 #[v, .func (.func fn) #[] cp] w fun e w2 => e = .returned (.bool (xs.any p)) ∧ Ext w w2 := by
  go_enter Tryz.func52, Tryz.ntmps52
  go_wp2_with fail
  refine (IndexFunc_rec v xs p fn cp w h hfn hf).mono ?_
  rintro e w2 ⟨rfl, x2⟩
  have ha := idxF_any p xs 0
  go_wp2
  go_ret
  exact ⟨by rw [← ha]; rfl, x2⟩


/-- are they valid, and no more than twelve? -/
def goodRecs (xs : List Record) : Bool := decide (xs.length ≤ 12) && xs.all okRec
def goldRecs (xs : List Record) : List Record := if goodRecs xs = true then xs else []
theorem any_okRec (xs : List Record) : (xs.any fun s => !okRec s) = !xs.all okRec := by
  induction xs with
  | nil => rfl
  | cons x xs ih => simp only [List.any_cons, List.all_cons, ih, Bool.not_and]
theorem okRec_stop (xs : List Record) (k : Nat) (h : k < xs.length) (hb : okRec xs[k] = false) : goodRecs xs = false := by
  unfold goodRecs
  have : xs.all okRec = false := by
    cases e : xs.all okRec with
    | false => rfl
    | true =>
      have := List.all_eq_true.1 e xs[k] (List.getElem_mem h)
      rw [hb] at this; cases this
  rw [this, Bool.and_false]
theorem goodRecs_all {xs : List Record} {k : Nat} (hk : ¬ k < xs.length) (h : ∀ x ∈ xs.take k, okRec x = true) : goodRecs xs = decide (xs.length ≤ 12) := by
  unfold goodRecs
  rw [List.take_of_length_le (by omega)] at h
  rw [List.all_eq_true.2 h, Bool.and_true]
theorem goodRecs_at {xs : List Record} (h : goodRecs xs = true) {r : Record} (hr : r ∈ xs) : okRec r = true := by
  unfold goodRecs at h
  rw [Bool.and_eq_true] at h
  exact List.all_eq_true.1 h.2 r hr
theorem goodRecs_len {xs : List Record} (h : goodRecs xs = true) : xs.length ≤ 12 := by
  unfold goodRecs at h
  rw [Bool.and_eq_true, decide_eq_true_eq] at h
  exact h.1

set_option maxHeartbeats 400000 in
theorem impl_areRecords_1 (v : Value) (r : Record) (w : World) (h : RecAt w v r) :
    Calls Tryz.prog 53 #[v] w fun e w2 => e = .returned (.bool (!okRec r)) ∧ Ext w w2 := by
  obtain ⟨f, rfl, hok, hs⟩ := h
  go_enter Tryz.func53, Tryz.ntmps53
  go_wp2_with fail
  refine (impl_IsValidRecord _ r _ ⟨_, rfl, hok, hs.mono (by repeat (first | with_reducible exact Ext.refl _ | with_reducible assumption | with_reducible refine Ext.drew ?_ | with_reducible refine Ext.alloc ?_ _ | (refine Ext.setCell ?_ (by simp) _) | with_reducible refine Ext.trans ?_ (by with_reducible assumption)))⟩).mono ?_
  rintro e w2 ⟨rfl, x2⟩
  go_wp2
  go_ret
  exact ⟨rfl, (by repeat (first | with_reducible exact Ext.refl _ | with_reducible assumption | with_reducible refine Ext.drew ?_ | with_reducible refine Ext.alloc ?_ _ | with_reducible refine Ext.trans ?_ (by with_reducible assumption)))⟩

set_option maxHeartbeats 400000 in
theorem impl_areRecords (v : Value) (xs : List Record) (w : World) (h : Sl recordR w v xs) :
    Calls Tryz.prog 33 #[v] w fun e w2 => e = .returned (.bool (xs.all okRec)) ∧ Ext w w2 := by
  go_enter Tryz.func33, Tryz.ntmps33
  go_wp2_with fail
  refine (ContainsFunc_rec _ xs (fun r => !okRec r) 53 #[] _ h (fun _ _ => by kernel_rfl) (fun wz a y hx ha => impl_areRecords_1 a y wz ha)).mono ?_
  rintro e w2 ⟨rfl, x2⟩
  rw [any_okRec]
  go_wp2
  go_ret
  exact ⟨by simp, x2⟩

/-- the argument, or nothing -/
def GoldV (v : Value) (xs : List Record) (v2 : Value) : Prop := (v2 = v ∧ goldRecs xs = xs) ∨ (v2 = .slice none 0 0 ∧ goldRecs xs = [])
theorem GoldV.sl {v v2 : Value} {xs : List Record} {w : World} (g : GoldV v xs v2) (h : Sl recordR w v xs) : Sl recordR w v2 (goldRecs xs) := by
  rcases g with ⟨rfl, e⟩ | ⟨rfl, e⟩
  · rw [e]; exact h
  · rw [e]; exact ⟨none, 0, rfl, ⟨Nat.le_refl _, Nat.zero_le _⟩, fun i hi => by simp at hi⟩
set_option maxHeartbeats 400000 in
theorem impl_goldenRecords (v : Value) (xs : List Record) (w : World) (h : Sl recordR w v xs) :
    Calls Tryz.prog 18 #[v] w fun e w2 => ∃ v2, e = .returned v2 ∧ GoldV v xs v2 ∧ Ext w w2 := by
  obtain ⟨A, cap, rfl, hm⟩ := h.form
  by_cases hl : xs.length ≤ 12
  · go_enter Tryz.func18, Tryz.ntmps18
    go_wp2_with fail
    refine (impl_areRecords _ xs _ h).mono ?_
    rintro e w2 ⟨rfl, x2⟩
    cases ha : xs.all okRec with
    | true =>
      have hg := hid (show goldRecs xs = xs by unfold goldRecs goodRecs; rw [if_pos (by simp [ha, hl])])
      clear ha
      go_wp2
      go_ret
      exact ⟨_, rfl, .inl ⟨rfl, hg.out⟩, x2⟩
    | false =>
      have hg := hid (show goldRecs xs = [] by unfold goldRecs goodRecs; rw [if_neg (by simp [ha])])
      clear ha
      go_wp2
      go_ret
      exact ⟨_, rfl, .inr ⟨rfl, hg.out⟩, x2⟩
  · have hg := hid (show goldRecs xs = [] by unfold goldRecs goodRecs; rw [if_neg (by simp [hl])])
    go_enter Tryz.func18, Tryz.ntmps18
    go_wp2
    go_ret
    exact ⟨_, rfl, .inr ⟨rfl, hg.out⟩, Ext.refl _⟩

set_option maxHeartbeats 400000 in
theorem spec_l13Good (v : Value) (xs : List Record) (w : World) (h : Sl recordR w v xs) :
    Calls Tryz.prog 20 #[v] w fun e w2 => e = .returned (.bool (goodRecs xs)) ∧ Ext w w2 := by
  obtain ⟨A, cap, rfl, hm⟩ := h.form
  go_enter Tryz.func20, Tryz.ntmps20
  go_wp2
  go_loopw [3] (fun i wr => ∃ k : Nat, k ≤ xs.length ∧ i = .int .i64 k ∧ (∀ x ∈ xs.take k, okRec x = true) ∧ Ext w wr) (fun i _ => xs.length - (intOf i).toNat)
  case atStart => exact ⟨0, Nat.zero_le _, rfl, by simp, Ext.refl _⟩
  case round =>
    obtain ⟨k, hk, rfl, hz, hx⟩ := hrel
    have HZ := hid hz
    clear hz
    by_cases hlt : k < xs.length
    · obtain ⟨b, off, A2, cap2, rfl, hok, hsl, hc0, hc1, hc2, hc3⟩ := (h.mono hx).record hlt
      go_wp2_with fail
      refine (spec_IsValidRecord _ xs[k] _ ⟨_, rfl, hok, hsl⟩).mono ?_
      rintro e w2 ⟨rfl, x2⟩
      cases hv : okRec xs[k] with
      | false =>
        have HV := hid hv
        clear hv
        go_wp2
        go_ret
        exact ⟨ret_bool (okRec_stop xs k hlt HV.out).symm, (by repeat (first | with_reducible exact Ext.refl _ | with_reducible assumption | with_reducible refine Ext.drew ?_ | with_reducible refine Ext.alloc ?_ _ | with_reducible refine Ext.trans ?_ (by with_reducible assumption)))⟩
      | true =>
        have HV := hid hv
        clear hv
        go_wp2
        go_roundw
        case rel => exact ⟨k + 1, by omega, by go_num, take_snoc_all _ xs k hlt HZ.out HV.out, (by repeat (first | with_reducible exact Ext.refl _ | with_reducible assumption | with_reducible refine Ext.drew ?_ | with_reducible refine Ext.alloc ?_ _ | with_reducible refine Ext.trans ?_ (by with_reducible assumption)))⟩
        case measure => simp [intOf]; omega
    · have hg := hid (goodRecs_all hlt HZ.out)
      clear HZ
      by_cases h12 : xs.length ≤ 12
      all_goals
        go_wp2
        go_ret
        exact ⟨ret_bool (by rw [hg.out]; simp; omega), (by repeat (first | with_reducible exact Ext.refl _ | with_reducible assumption | with_reducible refine Ext.drew ?_ | with_reducible refine Ext.alloc ?_ _ | with_reducible refine Ext.trans ?_ (by with_reducible assumption)))⟩
end Go.Proofs.YtddjefbdekinbaaGreatDoor

namespace Go.Proofs.YtddjefbdekinbaaGreatDoor
open Go.RowKit
def verZ : List Value := [.int .i64 0, .int .i64 0, .bool false, .int .i64 0]
end Go.Proofs.YtddjefbdekinbaaGreatDoor

namespace Go.Proofs.YtddjefbdekinbaaGreatDoor
open Go.RowKit

theorem Kept.alloc {g : Nat} {w w2 : World} (h : Kept g w w2) (o : Obj) : Kept g w (w2.alloc o) := h.trans (Ext.kept ((Ext.refl _).alloc _))
theorem Kept.drew {g : Nat} {w w2 : World} (h : Kept g w w2) : Kept g w w2.drew := h.trans (Ext.kept (Ext.refl _).drew)
theorem Kept.setN {g : Nat} {w w2 : World} (h : Kept g w w2) {p : Addr} (hp : w.heap.size ≤ p.block) (u : Value) : Kept g w (w2.setCell p u) :=
  ⟨by rw [World.size_setCell]; exact h.1, fun b hb hne => (keep_setCell (fun e => by omega)).trans (h.2 b hb hne)⟩
theorem Cur.setN {w0 w : World} {g : Nat} (h : Cur w0 w g) {p : Addr} (hp : g < p.block) (u : Value) : Cur w0 (w.setCell p u) g :=
  h.keep (h.base.1.setCell (by have := h.base.2.1; omega) u) (keep_setCell (by omega))
theorem Blk.kept {w w2 : World} {b g : Nat} {e : TypeId} {cs : List Value} (h : Blk w b e cs) (hne : b ≠ g) (k : Kept g w w2) : Blk w2 b e cs := h.keep (k.2 b (block_lt h) hne)
theorem Cur.alloc {w0 w : World} {g : Nat} (h : Cur w0 w g) (o : Obj) : Cur w0 (w.alloc o) g := h.ext ((Ext.refl w).alloc o)
theorem Cur.drew {w0 w : World} {g : Nat} (h : Cur w0 w g) : Cur w0 w.drew g := h.ext (Ext.refl w).drew
/-- a verdict that was drawn -/
def VerDrawn (w0 w : World) (g : Nat) (e : Ending) (w2 : World) : Prop := ∃ v : Verdict, e = .returned (.agg #[.int .i64 v.a, .int .i64 v.b, .bool v.same, .int .i64 v.time]) ∧ v.ok ∧ Cur w0 w2 g ∧ Kept g w w2

end Go.Proofs.YtddjefbdekinbaaGreatDoor

namespace Go.Proofs.YtddjefbdekinbaaGreatDoor
open Go.RowKit

def vAt (xs : List Verdict) (k : Nat) : Verdict := xs.getD k ⟨0, 0, false, 0⟩
theorem vAt_at {xs : List Verdict} {k : Nat} (h : k < xs.length) : vAt xs k = xs[k] := by simp [vAt, List.getD, h]
def verAt (xs : List Verdict) (k : Nat) : Bool := okV (vAt xs k) && (k == 0 || decide (cmpV (vAt xs (k - 1)) (vAt xs k) < 0))
def areVers (xs : List Verdict) : Bool := (List.range xs.length).all (verAt xs) && decide (xs.length ≤ 8)
theorem vers_no {xs : List Verdict} {k : Nat} (hk : k < xs.length) (h : verAt xs k = false) : areVers xs = false := by
  unfold areVers
  rw [List.all_eq_false.2 ⟨k, List.mem_range.2 hk, by simp [h]⟩]; rfl
theorem vers_yes {xs : List Verdict} (h : ∀ j, j < xs.length → verAt xs j = true) : areVers xs = decide (xs.length ≤ 8) := by
  unfold areVers
  rw [List.all_eq_true.2 fun j hj => h j (List.mem_range.1 hj)]; rfl
theorem verAt_eq {xs : List Verdict} {k : Nat} (h : k < xs.length) : verAt xs k = (okV xs[k] && (k == 0 || decide (cmpV (vAt xs (k - 1)) xs[k] < 0))) := by
  unfold verAt; rw [vAt_at h]
theorem firstNZ_64 : ∀ l : List Int, (∀ x ∈ l, I64 x) → I64 (firstNZ l)
  | [], _ => by simp [firstNZ, I64]
  | x :: l, h => by
    rw [firstNZ]; split
    · exact h x (List.mem_cons_self ..)
    · exact firstNZ_64 l fun y hy => h y (List.mem_cons_of_mem _ hy)
theorem cmpV_64 (x y : Verdict) : I64 (cmpV x y) := firstNZ_64 _ (by simp [cmpI_64, cmpB_64])
theorem lt_succ_allV {p : Nat → Prop} {k : Nat} (h : ∀ j, j < k → p j) (hk : p k) : ∀ j, j < k + 1 → p j := fun j hj => by
  by_cases e : j = k
  · subst e; exact hk
  · exact h j (by omega)
end Go.Proofs.YtddjefbdekinbaaGreatDoor

namespace Go.Proofs.YtddjefbdekinbaaGreatDoor
open Go.RowKit
theorem one_ver (a b : Int) (c : Bool) (d : Int) : ∀ u ∈ (#[Value.int .i64 a, .int .i64 b, .bool c, .int .i64 d] : Array Value).toList, u.oneCell' = true := by simp [Value.oneCell']

/-- the last element of a list that grows: its cells; a store of a whole verdict there -/
theorem Bld.ver_last {w : World} {base : Nat} {e : TypeId} {A : Option Addr} {n cap : Nat} {xs : List Verdict} {l : Verdict} (h : Bld verdictO w base e (.slice A n cap) (xs ++ [l]) []) :
    n = xs.length + 1 ∧ ∃ g, A = some ⟨g, 0, none⟩ ∧ base ≤ g ∧ g < w.heap.size ∧ (w.cell? ⟨g, xs.length * 4, none⟩ = some (.int .i64 l.a) ∧ w.cell? ⟨g, xs.length * 4 + 1, none⟩ = some (.int .i64 l.b) ∧ w.cell? ⟨g, xs.length * 4 + 2, none⟩ = some (.bool l.same) ∧ w.cell? ⟨g, xs.length * 4 + 3, none⟩ = some (.int .i64 l.time)) ∧
      (∀ i, w.frozen? ⟨g, i, none⟩ = false) ∧ ∀ y : Verdict, y.ok → Bld verdictO ((((w.setCell ⟨g, xs.length * 4, none⟩ (.int .i64 y.a)).setCell ⟨g, xs.length * 4 + 1, none⟩ (.int .i64 y.b)).setCell ⟨g, xs.length * 4 + 2, none⟩ (.bool y.same)).setCell ⟨g, xs.length * 4 + 3, none⟩ (.int .i64 y.time)) base e (.slice A n cap) (xs ++ [y]) [] := by
  have hlt := h.lt
  obtain ⟨cs, h1, h2, _, _, _⟩ := h
  have hlen : (xs ++ [l]).length = xs.length + 1 := by simp
  rcases h1.2 with ⟨e0, hn⟩ | ⟨g, cap', cur, e0, hb, hh, hr⟩
  · rw [hlen] at hn; omega
  · injection e0 with e1 e2 e3
    subst e1; subst e3
    rw [hlen] at e2
    subst e2
    refine ⟨rfl, g, rfl, hb, block_lt hh, ?_⟩
    rw [hlen] at h1
    obtain ⟨c0, c, c1, F0, F1, F2, rfl, hF, l0, _, k0, k1, k2⟩ := h2.split xs.length (by rw [hlen]; omega)
    have hF0 : F0 = [] := (List.append_eq_nil_iff.1 hF.symm).1
    have hF2 : F2 = [] := (List.append_eq_nil_iff.1 (List.append_eq_nil_iff.1 hF.symm).2).2
    subst hF0; subst hF2
    rw [List.getElem_append_right (by omega)] at k1
    simp only [Nat.sub_self, List.getElem_singleton] at k1
    obtain ⟨⟨rfl, hok⟩, rfl⟩ := k1
    rw [show (xs ++ [l]).drop (xs.length + 1) = [] by simp] at k2
    obtain ⟨rfl, _⟩ := k2
    rw [List.append_nil] at h1
    rw [show (xs ++ [l]).take xs.length = xs by simp] at k0
    have hn : verdictO.n = 4 := rfl
    rw [hn] at l0 h1
    have hat := fun j (hj : j < 4) => h1.cellAt (xs.length * 4 + j) (by omega)
    have hget : ∀ j, (c0 ++ l.cells)[xs.length * 4 + j]? = l.cells[j]? := fun j => by rw [List.getElem?_append_right (by omega), l0]; congr 1; omega
    refine ⟨⟨by simpa [hget, Verdict.cells] using (hat 0 (by omega)).trans (hget 0), by simpa [Verdict.cells] using (hat 1 (by omega)).trans (hget 1), by simpa [Verdict.cells] using (hat 2 (by omega)).trans (hget 2), by simpa [Verdict.cells] using (hat 3 (by omega)).trans (hget 3)⟩, h1.frozenAt, fun y hy => ?_⟩
    have s0 := h1.stored (xs.length * 4) (.int .i64 y.a)
    have s1 := s0.1.stored (xs.length * 4 + 1) (.int .i64 y.b)
    have s2 := s1.1.stored (xs.length * 4 + 2) (.bool y.same)
    have s3 := s2.1.stored (xs.length * 4 + 3) (.int .i64 y.time)
    have hset : ((((c0 ++ l.cells).set (xs.length * 4) (.int .i64 y.a)).set (xs.length * 4 + 1) (.int .i64 y.b)).set (xs.length * 4 + 2) (.bool y.same)).set (xs.length * 4 + 3) (.int .i64 y.time) = c0 ++ y.cells := by
      rw [← l0]
      simp [Verdict.cells]
    rw [hset] at s3
    refine ⟨c0 ++ y.cells, by rw [List.length_append]; exact s3.1, ?_, fun _ _ hm => (by cases hm), List.nodup_nil, fun _ hm => by cases hm⟩
    have := OwnCells.snoc (k0.keep (w2 := ((((w.setCell ⟨g, xs.length * 4, none⟩ (.int .i64 y.a)).setCell ⟨g, xs.length * 4 + 1, none⟩ (.int .i64 y.b)).setCell ⟨g, xs.length * 4 + 2, none⟩ (.bool y.same)).setCell ⟨g, xs.length * 4 + 3, none⟩ (.int .i64 y.time))) fun b hb => by cases hb) (k := (⟨⟨rfl, hy⟩, rfl⟩ : verdictO.own _ y.cells y []))
    simpa using this

def curStep (out : List Verdict) (v : Verdict) : List Verdict :=
  match out.getLast? with
  | none => out ++ [v]
  | some l => if l.a = v.a ∧ l.b = v.b then (if l.time < v.time then out.dropLast ++ [v] else out) else out ++ [v]
def curV (xs : List Verdict) : List Verdict := if areVers xs then xs.foldl curStep [] else []
theorem curStep_nil (v : Verdict) : curStep [] v = [v] := rfl
theorem curStep_new {xs : List Verdict} {l v : Verdict} (h : ¬ (l.a = v.a ∧ l.b = v.b)) : curStep (xs ++ [l]) v = (xs ++ [l]) ++ [v] := by unfold curStep; simp [h]
theorem curStep_set {xs : List Verdict} {l v : Verdict} (h : l.a = v.a) (h1 : l.b = v.b) (h2 : l.time < v.time) : curStep (xs ++ [l]) v = xs ++ [v] := by unfold curStep; simp [h, h1, h2]
theorem curStep_old {xs : List Verdict} {l v : Verdict} (h : l.a = v.a) (h1 : l.b = v.b) (h2 : ¬ l.time < v.time) : curStep (xs ++ [l]) v = xs ++ [l] := by unfold curStep; simp [h, h1, h2]
theorem cur_step (xs : List Verdict) (k : Nat) (h : k < xs.length) : (xs.take (k + 1)).foldl curStep [] = curStep ((xs.take k).foldl curStep []) xs[k] := by
  rw [List.take_succ_eq_append_getElem h, List.foldl_append]; rfl
theorem curStep_len (out : List Verdict) (v : Verdict) : (curStep out v).length ≤ out.length + 1 := by
  rcases List.eq_nil_or_concat out with rfl | ⟨xs, l, rfl⟩
  · simp [curStep_nil]
  · rw [List.concat_eq_append]
    by_cases h : l.a = v.a ∧ l.b = v.b
    · by_cases h2 : l.time < v.time
      · rw [curStep_set h.1 h.2 h2]; simp
      · rw [curStep_old h.1 h.2 h2]; simp
    · rw [curStep_new h]; simp
theorem cur_len (xs : List Verdict) (k : Nat) (h : k ≤ xs.length) : ((xs.take k).foldl curStep []).length ≤ k := by
  induction k with
  | zero => simp
  | succ k ih =>
    rw [cur_step xs k (by omega)]
    have := curStep_len ((xs.take k).foldl curStep []) xs[k]
    have := ih (by omega)
    omega
theorem vers_len {xs : List Verdict} (h : areVers xs = true) : xs.length ≤ 8 := by
  unfold areVers at h; rw [Bool.and_eq_true] at h; exact of_decide_eq_true h.2
end Go.Proofs.YtddjefbdekinbaaGreatDoor

namespace Go.Proofs.YtddjefbdekinbaaGreatDoor
open Go.RowKit

theorem vflat_get : ∀ (ys : List Verdict) (j : Nat), (ys.flatMap Verdict.cells)[j]? = (ys[j / 4]?).bind fun y => y.cells[j % 4]?
  | [], j => by simp
  | y :: ys, j => by
    have hl : y.cells.length = 4 := rfl
    rw [List.flatMap_cons]
    by_cases h : j < 4
    · rw [List.getElem?_append_left (by omega), show j / 4 = 0 by omega, show j % 4 = j by omega]; rfl
    · rw [List.getElem?_append_right (by omega), hl, vflat_get ys (j - 4), show j / 4 = (j - 4) / 4 + 1 by omega, show j % 4 = (j - 4) % 4 by omega]; rfl
theorem vflat_len (ys : List Verdict) : (ys.flatMap Verdict.cells).length = ys.length * 4 := by
  induction ys with
  | nil => rfl
  | cons y ys ih => rw [List.flatMap_cons, List.length_append, ih, show y.cells.length = 4 from rfl, List.length_cons]; omega
theorem vers_own (ys : List Verdict) (h : ∀ y ∈ ys, y.ok) (W : World) : OwnCells verdictO W (ys.flatMap Verdict.cells) ys [] := by
  induction ys with
  | nil => exact .nil
  | cons y ys ih => exact ⟨y.cells, _, [], [], rfl, rfl, ⟨⟨rfl, h y (List.mem_cons_self ..)⟩, rfl⟩, ih fun z hz => h z (List.mem_cons_of_mem _ hz)⟩
theorem Sl.vers_some {w : World} {ad : Addr} {n cap : Nat} {ys : List Verdict} (h : Sl verdictR w (.slice (some ad) n cap) ys) : (∀ y ∈ ys, y.ok) ∧ ∀ j u, (ys.flatMap Verdict.cells)[j]? = some u → w.cell? (ad.add j) = some u := by
  refine ⟨fun y hy => ?_, fun j u hj => ?_⟩
  · obtain ⟨i, hi, rfl⟩ := List.getElem_of_mem hy
    obtain ⟨_, _, _, _, ⟨_, h1⟩, _⟩ := h.at_ hi
    exact h1
  · rw [vflat_get] at hj
    obtain ⟨y, hy, hc⟩ := Option.bind_eq_some_iff.1 hj
    obtain ⟨hi, rfl⟩ := List.getElem?_eq_some_iff.1 hy
    obtain ⟨b, off, cs, e, ⟨rfl, _⟩, h2⟩ := h.at_ hi
    injection e with e
    subst e
    have h3 := h2 (j % 4) (Nat.mod_lt _ (by decide))
    rw [add_eq, ← hc, ← h3]
    have h4 : verdictR.n = 4 := rfl
    rw [h4, show off + j / 4 * 4 + j % 4 = off + j by omega]
theorem vers_one (ys : List Verdict) : ∀ u ∈ ys.flatMap Verdict.cells, u.oneCell' = true := by
  intro u hu
  obtain ⟨y, _, hy⟩ := List.mem_flatMap.1 hu
  simp only [Verdict.cells, List.mem_cons, List.not_mem_nil, or_false] at hy
  rcases hy with rfl | rfl | rfl | rfl <;> rfl
/-- 'append(s, t...)': the verdicts of t, which may be the caller's -/
theorem wpList_appv {P : Program} {ops : Array Oper} {rest : List Oper} {o : Oper} {a : Act} {w : World} {Q : Exit → Act → World → Prop} {t e : TypeId} {bytes : Nat} (E : ElemT P t e verdictO.n bytes) (hby : bytes ≤ 128)
    (hgd : o.guard = none) (s x : Operand) (ho : o.op = .call { callee := .builtin .append, args := #[s, x], argTypes := #[t, t] })
    {base : Nat} {v : Value} {xs : List Verdict} (hb : Bld verdictO w base e v xs []) (hs : a.eval s = v) {A : Option Addr} {n k : Nat} (hx : a.eval x = .slice A n k) {ys : List Verdict} (hy : Sl verdictR w (.slice A n k) ys)
    (hbytes : xs.length + ys.length ≤ 1099511627776) (hbase : base ≤ w.heap.size)
    (h : ∀ v' w', Bld verdictO w' base e v' (xs ++ ys) [] → (∀ w0 : World, w0.heap.size ≤ base → Ext w0 w → Ext w0 w') → wpList P ops Q rest (a.put o.dst v') w') :
    wpList P ops Q (o :: rest) a w := by
  obtain ⟨ht, i, z, hi, hz, hsize, hby2, hzs⟩ := E
  have hn : n = ys.length := hy.cap_.1
  cases A with
  | none =>
    have h0 : ys = [] := by
      cases ys with
      | nil => rfl
      | cons y ys =>
        obtain ⟨_, _, _, e, _⟩ := hy.at_ (show 0 < (y :: ys).length by simp)
        cases e
    subst h0
    have hn0 : n = 0 := hn
    subst hn0
    obtain ⟨cs, b1, b2⟩ := hb
    refine wpList_plain hgd fun K hK => ?_
    have hr : (Builtin.append_ #[t, t] o.type #[v, .slice none 0 k]).run P w = .ok v w := by
      rcases b1.2 with ⟨rfl, _⟩ | ⟨g, cap, cur, rfl, _, _, hnc, _⟩
      · simp [Builtin.append_, run_underlying ht, sizeOf, typeInfo, hi, Builtin.lenOf, Builtin.firstCells]
      · simp [Builtin.append_, run_underlying ht, sizeOf, typeInfo, hi, Builtin.lenOf, Builtin.firstCells, hnc, storeCells]
    unfold Oper.wp execOp
    simp only [ho, resolve, invoke, builtin, Sem.run_bind, Sem.run_pure, Result.andThen_ok, List.map_toArray, List.map_cons, List.map_nil, hs, hx, hr]
    exact hK _ _ (h v w (by rw [List.append_nil]; exact ⟨cs, b1, b2⟩) fun _ _ hx => hx)
  | some ad =>
    obtain ⟨hI, hc⟩ := hy.vers_some
    have hl := hb.lt
    obtain ⟨cs, b1, b2, b3, b4, b5⟩ := hb
    have h4 : verdictO.n = 4 := rfl
    refine wpList_append_own_at w hgd s x t ho base e i z verdictO.n bytes ht hi hz hsize hby2 hzs (by decide) v xs.length cs hs b1 ad n k (ys.flatMap Verdict.cells) hx (by rw [vflat_len, hn, h4]) hc (vers_one ys) (by unfold maxLen; omega)
      (Nat.le_trans (Nat.mul_le_mul (show xs.length + n ≤ 1099511627776 by omega) hby) (by decide)) hbase ?_
    intro v' w' hown hgr _ hat
    refine h v' w' ⟨cs ++ ys.flatMap Verdict.cells, by rw [List.length_append, ← hn]; exact hown, ?_, fun _ _ hm => (by cases hm), List.nodup_nil, fun _ hm => by cases hm⟩ fun w0 h0 hx0 => hx0.grown hgr fun g hg => Nat.le_trans h0 (hl.2 g hg).2
    have := OwnCells.append (b2.keep (w2 := w') fun b hb => by cases hb) (vers_own ys hI w')
    simpa using this

end Go.Proofs.YtddjefbdekinbaaGreatDoor

namespace Go.Proofs.YtddjefbdekinbaaGreatDoor
open Go.RowKit
end Go.Proofs.YtddjefbdekinbaaGreatDoor

namespace Go.Proofs.YtddjefbdekinbaaGreatDoor
open Go.RowKit

theorem Bld.empv {α : Type} {R : RepO α} {W : World} {base g : Nat} {e : TypeId} (hb : base ≤ g) (h : W.heap[g]? = some (.cells #[] e (0, 0))) : Bld R W base e (.slice (some ⟨g, 0, none⟩) 0 0) ([] : List α) [] :=
  ⟨[], ⟨by simp, .inr ⟨g, 0, #[], rfl, hb, h, Nat.le_refl _, Nat.zero_le _, by simp, by simp⟩⟩, .nil, fun _ _ h => (by cases h), List.nodup_nil, fun _ h => by cases h⟩
theorem Bld.lowv {α : Type} {R : RepO α} {w : World} {base base2 : Nat} {e : TypeId} {v : Value} {xs : List α} {F : List Nat} (h : Bld R w base e v xs F) (hb : base2 ≤ base) : Bld R w base2 e v xs F := by
  obtain ⟨cs, h1, h2, h3, h4, h5⟩ := h
  refine ⟨cs, ⟨h1.1, ?_⟩, h2, h3, h4, fun b hb2 => Nat.le_trans hb (h5 b hb2)⟩
  rcases h1.2 with h | ⟨g', cap, cur, e1, e2, e3⟩
  · exact .inl h
  · exact .inr ⟨g', cap, cur, e1, Nat.le_trans hb e2, e3⟩
theorem Sl.ver_none {w : World} {n cap : Nat} {ys : List Verdict} (h : Sl verdictR w (.slice none n cap) ys) : ys = [] := by
  cases ys with
  | nil => rfl
  | cons y ys =>
    obtain ⟨_, _, _, e, _⟩ := h.at_ (show 0 < (y :: ys).length by simp)
    cases e
theorem step_appv {P : Program} {ops : Array Oper} {o : Oper} {a : Act} {w : World} {K : Act → World → Prop} {Q : Exit → Act → World → Prop} {Z : Prop} {t e : TypeId} {bytes : Nat} (E : ElemT P t e verdictO.n bytes) (hby : bytes ≤ 128)
    (hgd : o.guard = none) (s x : Operand) (ho : o.op = .call { callee := .builtin .append, args := #[s, x], argTypes := #[t, t] })
    {base : Nat} {v : Value} {xs : List Verdict} (hb : Bld verdictO w base e v xs []) (hs : a.eval s = v) {A : Option Addr} {n k : Nat} (hx : a.eval x = .slice A n k) {ys : List Verdict} (hy : Sl verdictR w (.slice A n k) ys)
    (hbytes : xs.length + ys.length ≤ 1099511627776) (hbase : base ≤ w.heap.size) {w0 : World} (h0 : w0.heap.size ≤ base) (hx0 : Ext w0 w)
    (h : ∀ v' w', Bld verdictO w' base e v' (xs ++ ys) [] → Ext w0 w' → (∀ b, b < w.heap.size → v.ownBlock ≠ some b → w'.heap[b]? = w.heap[b]?) → K (a.put o.dst v') w') :
    if Region.wanted o (yielded ops a.tmps) = true then Oper.wp P o a w K Q else Z := by
  have hw : Region.wanted o (yielded ops a.tmps) = true := by simp [Region.wanted, hgd]
  rw [if_pos hw]
  obtain ⟨ht, i, z, hi, hz, hsize, hby2, hzs⟩ := E
  have hn : n = ys.length := hy.cap_.1
  by_cases hm : 0 < n
  · cases A with
    | none => rw [hy.ver_none] at hn; simp at hn; omega
    | some ad =>
      obtain ⟨hI, hc⟩ := hy.vers_some
      have hl := hb.lt
      obtain ⟨cs, b1, b2, b3, b4, b5⟩ := hb
      have h4 : verdictO.n = 4 := rfl
      refine wp_append_lies w s x t ho base e i z verdictO.n bytes ht hi hz hsize hby2 hzs (by decide) v xs.length cs hs b1 ad n k (ys.flatMap Verdict.cells) hx (by rw [vflat_len, hn, h4]) hc (vers_one ys) hm (by unfold maxLen; omega)
        (Nat.le_trans (Nat.mul_le_mul (show xs.length + n ≤ 1099511627776 by omega) hby) (by decide)) hbase w.heap.size rfl ?_
      intro g' cap w' hown hgr hat _
      refine h _ _ ⟨cs ++ ys.flatMap Verdict.cells, by rw [List.length_append, ← hn]; exact hown, ?_, fun _ _ hm => (by cases hm), List.nodup_nil, fun _ hm => by cases hm⟩ (hx0.grown hgr fun g hg => Nat.le_trans h0 (hl.2 g hg).2) fun b hb2 hne => hgr.block b hb2 (fun e => hne e.symm)
      have := OwnCells.append (b2.keep (w2 := w') fun b hb => by cases hb) (vers_own ys hI w')
      simpa using this
  · have hn0 : n = 0 := by omega
    subst hn0
    have hys : ys = [] := List.eq_nil_of_length_eq_zero hn.symm
    subst hys
    have hb0 := hb
    obtain ⟨cs, b1, b2⟩ := hb
    have hr : (Builtin.append_ #[t, t] o.type #[v, .slice A 0 k]).run P w = .ok v w := by
      rcases b1.2 with ⟨rfl, _⟩ | ⟨g, cap, cur, rfl, _, _, hnc, _⟩
      · cases A <;> simp [Builtin.append_, run_underlying ht, sizeOf, typeInfo, hi, Builtin.lenOf, Builtin.firstCells, loadCells, loadCellsFrom]
      · cases A <;> simp [Builtin.append_, run_underlying ht, sizeOf, typeInfo, hi, Builtin.lenOf, Builtin.firstCells, hnc, storeCells, loadCells, loadCellsFrom]
    unfold Oper.wp execOp
    simp only [ho, resolve, invoke, builtin, Sem.run_bind, Sem.run_pure, Result.andThen_ok, List.map_toArray, List.map_cons, List.map_nil, hs, hx, hr]
    exact h v w (by rw [List.append_nil]; exact hb0) hx0 fun _ _ _ => rfl

end Go.Proofs.YtddjefbdekinbaaGreatDoor

namespace Go.Proofs.YtddjefbdekinbaaGreatDoor
open Go.RowKit

theorem elemRec : ElemT Tryz.prog 24 34 recordO.n 48 := by
  obtain ⟨i, h1, h2, h3, h4⟩ := info_parts infoRecord
  exact ⟨Tryz.underlying24, i, _, h1, h2, h3, h4, rfl⟩
end Go.Proofs.YtddjefbdekinbaaGreatDoor
