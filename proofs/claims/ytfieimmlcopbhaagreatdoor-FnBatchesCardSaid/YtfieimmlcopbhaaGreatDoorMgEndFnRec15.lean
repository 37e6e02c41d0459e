/-
  SEVERAL SMALL TEXTS LAID TOGETHER: FmtR, CopyR.
-/
import Derived.Test.YtfieimmlcopbhaaGreatDoorMgEndFnRec5
import Derived.Test.YtfieimmlcopbhaaGreatDoorMgEndFnRec12
import Derived.Test.YtfieimmlcopbhaaGreatDoorMgEndFnRec0
import Derived.Deep.RegionHeld3
import Derived.Test.YtfieimmlcopbhaaGreatDoorMgEndFnRec13
import Derived.Test.YtfieimmlcopbhaaGreatDoorMgEndFnRec11

namespace Go.Proofs.YtfieimmlcopbhaaGreatDoor
open Go.RowKit

def letter (s : Int) : ByteArray := ⟨#[UInt8.ofNat (97 + s.toNat)]⟩
/-- the name of a record; its text -/
def orgN (s k : Int) : ByteArray := letter s ++ itoaS k
def recN (r : Record) : ByteArray := if okRec r = true then orgN r.source r.key else ⟨#[]⟩
def recT (r : Record) : ByteArray := orgN r.source r.key ++ ⟨#[46]⟩ ++ itoaS r.version ++ ⟨#[124]⟩ ++ joinS r.fields ⟨#[124]⟩
def fmtR (r : Record) : ByteArray := if okRec r = true then recT r else ⟨#[]⟩
theorem okH_bounds {r : Record} (h : okH r = true) : (0 ≤ r.source ∧ r.source ≤ 3) ∧ (1 ≤ r.key ∧ r.key ≤ 99) ∧ 1 ≤ r.version ∧ r.version ≤ 999 := by
  unfold okH inB at h
  simp only [Bool.and_eq_true, decide_eq_true_eq] at h
  exact ⟨h.1.1, h.1.2, h.2⟩
theorem okRec_H {r : Record} (h : okRec r = true) : okH r = true := by
  unfold okRec at h
  simp only [Bool.and_eq_true] at h
  exact h.1.1
theorem okRec_len {r : Record} (h : okRec r = true) : r.fields.length = 4 := by
  unfold okRec at h
  simp only [Bool.and_eq_true, beq_iff_eq] at h
  omega
theorem okRec_F {r : Record} (h : okRec r = true) : ∀ s ∈ r.fields, s.size ≤ 40 := fun s hs => by
  unfold okRec at h
  simp only [Bool.and_eq_true] at h
  have h1 := List.all_eq_true.1 h.2 s hs
  unfold okF okT at h1
  simp only [Bool.and_eq_true, decide_eq_true_eq] at h1
  exact h1.2.2
theorem letter_size (s : Int) : (letter s).size = 1 := rfl
theorem orgN_size {s k : Int} (h : I64 k) : (orgN s k).size ≤ 21 := by
  have := itoaS_size h
  unfold orgN
  rw [ByteArray.size_append, letter_size]; omega
theorem fields_size {r : Record} (h : okRec r = true) : (joinS r.fields ⟨#[124]⟩).size ≤ 164 := by
  have h1 := joinS_size 40 ⟨#[124]⟩ r.fields (okRec_F h)
  have e1 : (⟨#[124]⟩ : ByteArray).size = 1 := rfl
  rw [e1, okRec_len h] at h1
  omega

set_option maxHeartbeats 400000 in
set_option maxRecDepth 20000 in
theorem impl_originName (s k : Int) (w : World) (hs : 0 ≤ s ∧ s ≤ 3) (hk : I64 k) (T : Tab w) :
    Calls Tryz.prog 75 #[.int .i64 s, .int .i64 k] w fun e w2 => e = .returned (.string (orgN s k)) ∧ Ext w w2 := by
  have s1 := itoaS_size hk
  have TZ : ∀ q : ExtOf w, Tab q.1 := fun q => T.mono q.2
  have HK := hid hk
  clear hk
  have hc : s = 0 ∨ s = 1 ∨ s = 2 ∨ s = 3 := by omega
  clear hs
  rcases hc with rfl | rfl | rfl | rfl
  all_goals
    go_enter Tryz.func75, Tryz.ntmps75
    go_wp2_with fail
    refine wp_region_ext (by kernel_rfl) (by kernel_rfl) ?_
    repeat (go_big_quiet_step (((go_at_call 83; exact quiet_ext (impl_FormatInt _ _ HK.out (TZ _))))))
    refine wpQuiet_nil ?_
    rintro w1 ⟨⟨_, x1⟩, rfl⟩
    go_wp2
    go_ret
    exact ⟨rfl, (by repeat (first | with_reducible exact Ext.refl _ | with_reducible assumption | with_reducible refine Ext.drew ?_ | with_reducible refine Ext.alloc ?_ _ | with_reducible refine Ext.trans ?_ (by with_reducible assumption)))⟩

set_option maxHeartbeats 400000 in
set_option maxRecDepth 20000 in
theorem impl_formatRecord (v : Value) (r : Record) (w : World) (h : RecAt w v r) (hok : okRec r = true) (T : Tab w) :
    Calls Tryz.prog 72 #[v] w fun e w2 => e = .returned (.string (recT r)) ∧ Ext w w2 := by
  obtain ⟨f, rfl, ⟨i1, i2, i3⟩, hs⟩ := h
  obtain ⟨A, cap, rfl, hm⟩ := hs.form
  have hb := (okH_bounds (okRec_H hok)).1
  have s1 := orgN_size (s := r.source) i2
  have s2 := itoaS_size i3
  have s3 := fields_size hok
  have hl := okRec_len hok
  have z0 : ∀ q : ExtOf (w.alloc (.cells #[.int .i64 r.source, .int .i64 r.key, .int .i64 r.version, .slice A r.fields.length cap] 24)), q.1.cell? ⟨w.heap.size, 0, none⟩ = some (.int .i64 r.source) := fun q => q.2.box.1 0
  have z1 : ∀ q : ExtOf (w.alloc (.cells #[.int .i64 r.source, .int .i64 r.key, .int .i64 r.version, .slice A r.fields.length cap] 24)), q.1.cell? ⟨w.heap.size, 1, none⟩ = some (.int .i64 r.key) := fun q => q.2.box.1 1
  have z2 : ∀ q : ExtOf (w.alloc (.cells #[.int .i64 r.source, .int .i64 r.key, .int .i64 r.version, .slice A r.fields.length cap] 24)), q.1.cell? ⟨w.heap.size, 2, none⟩ = some (.int .i64 r.version) := fun q => q.2.box.1 2
  have z3 : ∀ q : ExtOf (w.alloc (.cells #[.int .i64 r.source, .int .i64 r.key, .int .i64 r.version, .slice A r.fields.length cap] 24)), q.1.cell? ⟨w.heap.size, 3, none⟩ = some (.slice A r.fields.length cap) := fun q => q.2.box.1 3
  have TZ : ∀ q : ExtOf (w.alloc (.cells #[.int .i64 r.source, .int .i64 r.key, .int .i64 r.version, .slice A r.fields.length cap] 24)), Tab q.1 := fun q => T.mono (((Ext.refl _).alloc _).trans q.2)
  have SZ : ∀ q : ExtOf (w.alloc (.cells #[.int .i64 r.source, .int .i64 r.key, .int .i64 r.version, .slice A r.fields.length cap] 24)), Sl strR q.1 (.slice A r.fields.length cap) r.fields := fun q => hs.mono (((Ext.refl _).alloc _).trans q.2)
  have HB := hid hb
  have H2 := hid i2
  have H3 := hid i3
  have HJ := hid (show r.fields.length ≤ 140737488355328 ∧ (joinS r.fields ⟨#[124]⟩).size ≤ 140737488355328 by omega)
  clear hb i1 i2 i3 hl hok
  go_enter Tryz.func72, Tryz.ntmps72
  go_wp2_with fail
  refine wp_region_ext (by kernel_rfl) (by kernel_rfl) ?_
  repeat (go_big_quiet_step (((first | (go_at_call 75; exact quiet_ext (impl_originName _ _ _ HB.out H2.out (TZ _))) | (go_at_call 83; exact quiet_ext (impl_FormatInt _ _ H3.out (TZ _))) | (go_at_call 118; exact quiet_ext (strings_Join_c _ r.fields ⟨#[124]⟩ _ (SZ _) HJ.out.1 HJ.out.2))))))
  refine wpQuiet_nil ?_
  rintro w1 ⟨⟨_, x1⟩, rfl⟩
  go_wp2
  go_ret
  exact ⟨rfl, (by repeat (first | with_reducible exact Ext.refl _ | with_reducible assumption | with_reducible refine Ext.drew ?_ | with_reducible refine Ext.alloc ?_ _ | with_reducible refine Ext.trans ?_ (by with_reducible assumption)))⟩

set_option maxHeartbeats 400000 in
set_option maxRecDepth 20000 in
theorem impl_RecordName (v : Value) (r : Record) (w : World) (h : RecAt w v r) (T : Tab w) :
    Calls Tryz.prog 31 #[v] w fun e w2 => e = .returned (.string (recN r)) ∧ Ext w w2 := by
  obtain ⟨f, rfl, hI, hs⟩ := h
  have HB := hid (show ∀ W, Ext (w.alloc (.cells #[.int .i64 r.source, .int .i64 r.key, .int .i64 r.version, f] 24)) W → W.cell? ⟨w.heap.size, 0, none⟩ = some (.int .i64 r.source) ∧ W.cell? ⟨w.heap.size, 1, none⟩ = some (.int .i64 r.key) from fun W z => ⟨z.box.1 0, z.box.1 1⟩)
  go_enter Tryz.func31, Tryz.ntmps31
  go_wp2_with fail
  refine (impl_IsValidRecord _ r _ ⟨_, rfl, hI, hs.mono (by repeat (first | with_reducible exact Ext.refl _ | with_reducible assumption | with_reducible refine Ext.drew ?_ | with_reducible refine Ext.alloc ?_ _ | (refine Ext.setCell ?_ (by simp) _) | with_reducible refine Ext.trans ?_ (by with_reducible assumption)))⟩).mono ?_
  rintro e w1 ⟨rfl, x1⟩
  obtain ⟨b0, b1⟩ := HB.out _ x1
  cases hok : okRec r with
  | false =>
    have hr := hid (show recN r = ⟨#[]⟩ by unfold recN; rw [if_neg (by simp [hok])])
    go_wp2
    go_ret
    exact ⟨by rw [hr.out]; rfl, (by repeat (first | with_reducible exact Ext.refl _ | with_reducible assumption | with_reducible refine Ext.drew ?_ | with_reducible refine Ext.alloc ?_ _ | with_reducible refine Ext.trans ?_ (by with_reducible assumption)))⟩
  | true =>
    have hr := hid (show recN r = orgN r.source r.key by unfold recN; rw [if_pos hok])
    have hb := hid (okH_bounds (okRec_H hok)).1
    have HI := hid hI
    clear hI hok
    go_wp2_with fail
    refine (impl_originName _ _ _ hb.out HI.out.2.1 (T.mono (by repeat (first | with_reducible exact Ext.refl _ | with_reducible assumption | with_reducible refine Ext.drew ?_ | with_reducible refine Ext.alloc ?_ _ | with_reducible refine Ext.trans ?_ (by with_reducible assumption))))).mono ?_
    rintro e w2 ⟨rfl, x2⟩
    go_wp2
    go_ret
    exact ⟨by rw [hr.out]; rfl, (by repeat (first | with_reducible exact Ext.refl _ | with_reducible assumption | with_reducible refine Ext.drew ?_ | with_reducible refine Ext.alloc ?_ _ | with_reducible refine Ext.trans ?_ (by with_reducible assumption)))⟩
end Go.Proofs.YtfieimmlcopbhaaGreatDoor

namespace Go.Proofs.YtfieimmlcopbhaaGreatDoor
open Go.RowKit

/-- onto an empty literal, from whatever slice -/
theorem step_appsA {P : Program} {ops : Array Oper} {o : Oper} {a : Act} {w : World} {K : Act → World → Prop} {Q : Exit → Act → World → Prop} {Z : Prop} {t e : TypeId} (E : ElemT P t e strO.n 16)
    (hgd : o.guard = none) (s x : Operand) (ho : o.op = .call { callee := .builtin .append, args := #[s, x], argTypes := #[t, t] })
    {base g : Nat} (hs : a.eval s = .slice (some ⟨g, 0, none⟩) 0 0) (hbg : base ≤ g) (hg : w.heap[g]? = some (.cells #[] e (0, 0))) {A : Option Addr} {n k : Nat} (hx : a.eval x = .slice A n k) {ys : List ByteArray} (hy : Sl strR w (.slice A n k) ys)
    (hbytes : ys.length ≤ 1099511627776) {w0 : World} (h0 : w0.heap.size ≤ base) (hx0 : Ext w0 w)
    (h : ∀ v' w', Bld strO w' base e v' ys [] → Ext w0 w' → (∀ b, b < w.heap.size → b ≠ g → w'.heap[b]? = w.heap[b]?) → K (a.put o.dst v') w') :
    if Region.wanted o (yielded ops a.tmps) = true then Oper.wp P o a w K Q else Z := by
  cases A with
  | some ad => exact step_apps E hgd s x ho hs hbg hg hx hy hbytes h0 hx0 h
  | none =>
    have hw : Region.wanted o (yielded ops a.tmps) = true := by simp [Region.wanted, hgd]
    rw [if_pos hw]
    have hb : Bld strO w base e (.slice (some ⟨g, 0, none⟩) 0 0) ([] : List ByteArray) [] := Bld.emp hbg hg
    obtain ⟨ht, i, z, hi, hz, hsize, hby2, hzs⟩ := E
    have hys : ys = [] := by
      cases ys with
      | nil => rfl
      | cons y ys =>
        obtain ⟨_, _, _, e, _⟩ := hy.at_ (show 0 < (y :: ys).length by simp)
        cases e
    have hn0 : n = 0 := by have := hy.cap_.1; rw [hys] at this; exact this
    subst hn0
    subst hys
    have hr : (Builtin.append_ #[t, t] o.type #[.slice (some ⟨g, 0, none⟩) 0 0, .slice none 0 k]).run P w = .ok (.slice (some ⟨g, 0, none⟩) 0 0) w := by
      simp [Builtin.append_, run_underlying ht, sizeOf, typeInfo, hi, Builtin.lenOf, Builtin.firstCells, storeCells]
    unfold Oper.wp execOp
    simp only [ho, resolve, invoke, builtin, Sem.run_bind, Sem.run_pure, Result.andThen_ok, List.map_toArray, List.map_cons, List.map_nil, hs, hx, hr]
    exact h _ _ hb hx0 fun _ _ _ => rfl

set_option maxHeartbeats 1000000 in
set_option maxRecDepth 20000 in
theorem spec_l8Copy (v : Value) (r : Record) (w : World) (h : RecAt w v r) (hl : r.fields.length ≤ 1099511627776) :
    Calls Tryz.prog 111 #[v] w fun e w2 => ∃ v2 F, e = .returned v2 ∧ RecOwn w2 v2 r F ∧ NewF w F ∧ Ext w w2 := by
  obtain ⟨f, rfl, hok, hs⟩ := h
  obtain ⟨A, cap, rfl, hm⟩ := hs.form
  have bP := Blk.new w 24 #[.int .i64 r.source, .int .i64 r.key, .int .i64 r.version, .slice A r.fields.length cap]
  have bR := Blk.new (w.alloc (.cells #[.int .i64 r.source, .int .i64 r.key, .int .i64 r.version, .slice A r.fields.length cap] 24)) 24 #[.int .i64 0, .int .i64 0, .int .i64 0, .slice none 0 0]
  rw [World.size_alloc] at bR
  have HS := hid (show ∀ W, Ext w W → Sl strR W (.slice A r.fields.length cap) r.fields from fun W x => hs.mono x)
  have HP := hid (show ∀ W, Ext (w.alloc (.cells #[.int .i64 r.source, .int .i64 r.key, .int .i64 r.version, .slice A r.fields.length cap] 24)) W → W.cell? ⟨w.heap.size, 0, none⟩ = some (.int .i64 r.source) ∧ W.cell? ⟨w.heap.size, 1, none⟩ = some (.int .i64 r.key) ∧ W.cell? ⟨w.heap.size, 2, none⟩ = some (.int .i64 r.version) ∧ W.cell? ⟨w.heap.size, 3, none⟩ = some (.slice A r.fields.length cap) from fun W x => (bP.ext x).c4.1)
  have HR := hid (show ∀ W, Ext ((w.alloc (.cells #[.int .i64 r.source, .int .i64 r.key, .int .i64 r.version, .slice A r.fields.length cap] 24)).alloc (.cells #[.int .i64 0, .int .i64 0, .int .i64 0, .slice none 0 0] 24)) W → Blk W (w.heap.size + 1) 24 [.int .i64 0, .int .i64 0, .int .i64 0, .slice none 0 0] from fun W x => bR.ext x)
  have HE := hid (show ((((w.alloc (.cells #[.int .i64 r.source, .int .i64 r.key, .int .i64 r.version, .slice A r.fields.length cap] 24)).alloc (.cells #[.int .i64 0, .int .i64 0, .int .i64 0, .slice none 0 0] 24)).alloc (.cells #[] 9)).drew).heap[w.heap.size + 1 + 1]? = some (.cells #[] 9 (0, 0)) from by show (World.alloc _ _).heap[_]? = _; have h9 := heap_alloc_new ((w.alloc (.cells #[.int .i64 r.source, .int .i64 r.key, .int .i64 r.version, .slice A r.fields.length cap] 24)).alloc (.cells #[.int .i64 0, .int .i64 0, .int .i64 0, .slice none 0 0] 24)) (.cells #[] 9); simpa using h9)
  clear bP bR hs
  go_enter Tryz.func111, Tryz.ntmps111
  go_wp2_with fail
  go_region_held3 (fun w' => w'.cell? ⟨w.heap.size, 0, none⟩ = some (.int .i64 r.source) ∧ w'.cell? ⟨w.heap.size, 1, none⟩ = some (.int .i64 r.key) ∧ w'.cell? ⟨w.heap.size, 2, none⟩ = some (.int .i64 r.version) ∧ w'.cell? ⟨w.heap.size, 3, none⟩ = some (.slice A r.fields.length cap)) (exact HP.out _ (by repeat (first | with_reducible exact Ext.refl _ | with_reducible assumption | with_reducible refine Ext.drew ?_ | with_reducible refine Ext.alloc ?_ _ | (refine Ext.setCell ?_ (by simp) _) | with_reducible refine Ext.trans ?_ (by with_reducible assumption)))) (first | (refine step_appsA elemStrC rfl _ _ rfl rfl (base := w.heap.size + 1 + 1) (Nat.le_refl _) HE.out rfl (HS.out _ (by repeat (first | with_reducible exact Ext.refl _ | with_reducible assumption | with_reducible refine Ext.drew ?_ | with_reducible refine Ext.alloc ?_ _ | with_reducible refine Ext.trans ?_ (by with_reducible assumption)))) hl (w0 := (w.alloc (.cells #[.int .i64 r.source, .int .i64 r.key, .int .i64 r.version, .slice A r.fields.length cap] 24))) (by rw [World.size_alloc]; omega) (by repeat (first | with_reducible exact Ext.refl _ | with_reducible assumption | with_reducible refine Ext.drew ?_ | with_reducible refine Ext.alloc ?_ _ | with_reducible refine Ext.trans ?_ (by with_reducible assumption))) ?_; intro v8 w8 hB8 x8 k8; have b8 := (HR.out _ (by repeat (first | with_reducible exact Ext.refl _ | with_reducible assumption | with_reducible refine Ext.drew ?_ | with_reducible refine Ext.alloc ?_ _ | with_reducible refine Ext.trans ?_ (by with_reducible assumption)))).keep (k8 _ (by simp) (by omega)); obtain ⟨⟨c80, c81, c82, c83⟩, f8⟩ := b8.c4; have f80 := f8 0; have f81 := f8 1; have f82 := f8 2; have f83 := f8 3; obtain ⟨A8, c8, e8, _⟩ := hB8.sl.form; subst e8))
  all_goals
    have b9 := (Blk.store4 b8 (.int .i64 r.source) (.int .i64 r.key) (.int .i64 r.version) (.slice A8 r.fields.length c8)).2.2.2.2
    obtain ⟨⟨r0, r1, r2, r3⟩, _⟩ := b9.c4
    obtain ⟨F8, o8, n8, m8, g8⟩ := Bld.own_ne hB8 b8 (by decide)
    have x9 : Ext w w8 := ((Ext.refl w).alloc _).trans x8
    have HI := hid hok
    clear hok HS HP HR HE
    go_wp2
    refine bodyPost_ret (v := .agg #[.int .i64 r.source, .int .i64 r.key, .int .i64 r.version, .slice A8 r.fields.length c8]) (by simp [results, Tryz.results111, go_sem, r0, r1, r2, r3]) rfl ?_
    exact ⟨_, F8, rfl, ⟨_, rfl, HI.out, (((o8.setCell (p := ⟨w.heap.size + 1, 0, none⟩) g8 _).setCell (p := ⟨w.heap.size + 1, 1, none⟩) g8 _).setCell (p := ⟨w.heap.size + 1, 2, none⟩) g8 _).setCell (p := ⟨w.heap.size + 1, 3, none⟩) g8 _⟩, ⟨n8, fun b hb => by have := m8 b hb; omega⟩, (((x9.setCell (by simp) _).setCell (by simp) _).setCell (by simp) _).setCell (by simp) _⟩
end Go.Proofs.YtfieimmlcopbhaaGreatDoor
