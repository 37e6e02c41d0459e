/-
  PLAIN LAW AND WALKS: FindRecord (both), slices.IndexFunc at records.
-/
import Derived.Test.YtbhhbdilaihegaaSto
import Derived.Test.YtbhhbdilaihegaaRid
import Derived.Test.YtbhhbdilaihegaaFn
namespace Go.Proofs.Ytbhhbdilaihegaa
open Go.RowKit

theorem Ext.box_1 {w W : World} {a : Value} {T : TypeId} (h : Ext (w.alloc (.cells #[a] T)) W) : W.cell? ⟨w.heap.size, 0, none⟩ = some a := h.box.1 0
def findR (s : Store) (id : Int) : Int := idxF (fun r => recID r == id) 0 s.records

set_option maxHeartbeats 400000 in
theorem IndexFunc_rec (v : Value) (xs : List Record) (p : Record → Bool) (fn : FuncId) (cp : Array Value) (w : World) (h : Sl recordR w v xs)
    (hfn : ∀ (args : Array Value) (W : World), Sem.run Try.prog (callFunc fn args) W = .ok (.enter fn args) W)
    (hf : ∀ wz a x, Ext w wz → RecAt wz a x → Calls Try.prog fn (#[a] ++ cp) wz fun e w2 => e = .returned (.bool (p x)) ∧ Ext wz w2) :
    Calls Try.prog 83 #[v, .func (.func fn) #[] cp] w fun e w2 => e = .returned (.int .i64 (idxF p 0 xs)) ∧ Ext w w2 := by
  obtain ⟨A, cap, rfl, hm⟩ := h.form
  go_enter Try.func83, Try.ntmps83
  go_wp2
  go_loopw [8] (fun i wr => ∃ k : Nat, k ≤ xs.length ∧ i = .int .i64 k ∧ (∀ x ∈ xs.take k, p x = false) ∧ Ext w wr) (fun i _ => xs.length - (intOf i).toNat)
  case atStart => exact ⟨0, Nat.zero_le _, rfl, by simp, Ext.refl _⟩
  case round =>
    obtain ⟨k, hk, rfl, hz, hx⟩ := hrel
    have HZ := hid hz
    clear hz
    by_cases hlt : k < xs.length
    · obtain ⟨b, off, A2, cap2, rfl, hok, hsl, hc0, hc1, hc2, hc3⟩ := (h.mono hx).record hlt
      go_wp2_with fail
      refine (hf wr _ xs[k] hx ⟨_, rfl, hok, hsl⟩).mono ?_
      rintro e w2 ⟨rfl, x2⟩
      by_cases hp : p xs[k] = true
      · rw [hp]
        go_wp2
        go_ret
        exact ⟨ret_int (idxF_at p xs k hlt HZ.out hp).symm, hx.trans x2⟩
      · have hp' : p xs[k] = false := by simpa using hp
        have HP := hid hp'
        rw [hp']
        clear hp hp'
        go_wp2
        go_roundw
        case rel => exact ⟨k + 1, by omega, by go_num, take_snoc_all _ xs k hlt HZ.out HP.out, hx.trans x2⟩
        case measure => simp [intOf]; omega
    · go_wp2
      go_ret
      exact ⟨ret_int (idxF_all p xs k hlt HZ.out).symm, hx⟩

set_option maxHeartbeats 400000 in
theorem impl_FindRecord_1 (a : Value) (r : Record) (x : Int) (g : Nat) (w : World) (h : RecAt w a r) (hc : w.cell? ⟨g, 0, none⟩ = some (.int .i64 x)) :
    Calls Try.prog 84 #[a, .pointer (some ⟨g, 0, none⟩)] w fun e w2 => e = .returned (.bool (recID r == x)) ∧ Ext w w2 := by
  obtain ⟨m, rfl, hok, hs⟩ := h
  have hz : ∀ z : ExtOf (w.alloc (.cells #[.int .i64 r.source, .int .i64 r.key, .int .i64 r.version, m] 76)), z.1.cell? ⟨g, 0, none⟩ = some (.int .i64 x) ∧ (z.1.cell? ⟨w.heap.size, 0, none⟩ = some (.int .i64 r.source) ∧ z.1.cell? ⟨w.heap.size, 1, none⟩ = some (.int .i64 r.key) ∧ z.1.cell? ⟨w.heap.size, 2, none⟩ = some (.int .i64 r.version) ∧ z.1.cell? ⟨w.heap.size, 3, none⟩ = some m) :=
    fun z => ⟨(((Ext.refl _).alloc _).trans z.2).cell hc, z.2.box.1 0, z.2.box.1 1, z.2.box.1 2, z.2.box.1 3⟩
  have hr : ∀ z : ExtOf (w.alloc (.cells #[.int .i64 r.source, .int .i64 r.key, .int .i64 r.version, m] 76)), RecAt z.1 (.agg #[.int .i64 r.source, .int .i64 r.key, .int .i64 r.version, m]) r := fun z => ⟨m, rfl, hok, hs.mono (((Ext.refl _).alloc _).trans z.2)⟩
  have HR := hid hr
  clear hr
  go_enter Try.func84, Try.ntmps84
  go_wp2_with fail
  refine wp_region_ext (by kernel_rfl) (by kernel_rfl) ?_
  repeat (go_big_quiet_step ((first | (go_at_call 85; exact quiet_ext (impl_RecordID _ r _ (HR.out _))))))
  refine wpQuiet_nil ?_
  rintro w4 ⟨⟨_, x4⟩, rfl⟩
  go_wp2
  go_ret
  exact ⟨rfl, (by repeat (first | with_reducible exact Ext.refl _ | with_reducible assumption | with_reducible refine Ext.drew ?_ | with_reducible refine Ext.alloc ?_ _ | with_reducible refine Ext.trans ?_ (by with_reducible assumption)))⟩

set_option maxHeartbeats 400000 in
theorem impl_FindRecord (v : Value) (s : Store) (x : Int) (w : World) (h : StoAt w v s) (_hx : I64 x) :
    Calls Try.prog 41 #[v, .int .i64 x] w fun e w2 => e = .returned (.int .i64 (findR s x)) ∧ Ext w w2 := by
  obtain ⟨r, d, rfl, hI, hr, hd⟩ := h
  go_enter Try.func41, Try.ntmps41
  go_wp2_with fail
  refine (IndexFunc_rec _ s.records (fun r => recID r == x) 84 #[.pointer (some ⟨w.heap.size + 1, 0, none⟩)] _ (hr.mono (by repeat (first | with_reducible exact Ext.refl _ | with_reducible assumption | with_reducible refine Ext.drew ?_ | with_reducible refine Ext.alloc ?_ _ | (refine Ext.setCell ?_ (by simp) _) | with_reducible refine Ext.trans ?_ (by with_reducible assumption)))) (fun _ _ => by kernel_rfl) (fun wz a y hx ha => impl_FindRecord_1 a y x _ wz ha (hx.box1.1 0))).mono ?_
  rintro e w2 ⟨rfl, x2⟩
  go_wp2
  go_ret
  exact ⟨rfl, (by repeat (first | with_reducible exact Ext.refl _ | with_reducible assumption | with_reducible refine Ext.drew ?_ | with_reducible refine Ext.alloc ?_ _ | (refine Ext.setCell ?_ (by simp) _) | with_reducible refine Ext.trans ?_ (by with_reducible assumption)))⟩

set_option maxHeartbeats 400000 in
theorem spec_FindRecord (v : Value) (s : Store) (x : Int) (w : World) (h : StoAt w v s) (_hx : I64 x) :
    Calls Try.prog 39 #[v, .int .i64 x] w fun e w2 => e = .returned (.int .i64 (findR s x)) ∧ Ext w w2 := by
  obtain ⟨r, d, rfl, hI, hr, hd⟩ := h
  obtain ⟨A, cap, rfl, hm⟩ := hr.form
  go_enter Try.func39, Try.ntmps39
  go_wp2
  go_loopw [5] (fun i wr => ∃ k : Nat, k ≤ s.records.length ∧ i = .int .i64 k ∧ (∀ y ∈ s.records.take k, (recID y == x) = false) ∧ Ext (w.alloc (.cells #[.int .i64 s.version, .slice A s.records.length cap, d] 54)) wr) (fun i _ => s.records.length - (intOf i).toNat)
  case atStart => exact ⟨0, Nat.zero_le _, rfl, by simp, Ext.refl _⟩
  case round =>
    obtain ⟨k, hk, rfl, hz, hx⟩ := hrel
    have HZ := hid hz
    clear hz
    have cb := hx.box.1 1
    by_cases hlt : k < s.records.length
    · obtain ⟨b, off, A2, cap2, rfl, hok, hsl, hc0, hc1, hc2, hc3⟩ := (hr.mono (((Ext.refl _).alloc _).trans hx)).record hlt
      go_wp2_with fail
      refine (spec_RecordID _ s.records[k] _ ⟨_, rfl, hok, hsl⟩).mono ?_
      rintro e w2 ⟨rfl, x2⟩
      by_cases h0 : recID s.records[k] = x
      · have h1 : (recID s.records[k] == x) = true := by simp [h0]
        have H0 := hid h0
        clear h0
        go_wp2
        go_ret
        exact ⟨ret_int (idxF_at (fun y : Record => recID y == x) s.records k hlt HZ.out (by simp [H0.out])).symm, (by repeat (first | with_reducible exact Ext.refl _ | with_reducible assumption | with_reducible refine Ext.drew ?_ | with_reducible refine Ext.alloc ?_ _ | with_reducible refine Ext.trans ?_ (by with_reducible assumption)))⟩
      · have h1 : (recID s.records[k] == x) = false := by rw [beq_eq_false_iff_ne]; exact h0
        have H0 := hid h0
        clear h0
        go_wp2
        go_roundw
        case rel => exact ⟨k + 1, by omega, by go_num, take_snoc_all (fun y : Record => (recID y == x) = false) s.records k hlt HZ.out (by simp [H0.out]), hx.trans x2⟩
        case measure => simp [intOf]; omega
    · go_wp2
      go_ret
      exact ⟨ret_int (idxF_all (fun y : Record => recID y == x) s.records k hlt HZ.out).symm, (by repeat (first | with_reducible exact Ext.refl _ | with_reducible assumption | with_reducible refine Ext.drew ?_ | with_reducible refine Ext.alloc ?_ _ | with_reducible refine Ext.trans ?_ (by with_reducible assumption)))⟩
end Go.Proofs.Ytbhhbdilaihegaa
