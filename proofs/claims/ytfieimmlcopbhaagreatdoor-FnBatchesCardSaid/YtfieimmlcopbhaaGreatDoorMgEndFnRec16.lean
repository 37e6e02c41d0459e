/-
  WALKS: the reference's RecordName, FormatRecord.
-/
import Derived.Test.YtfieimmlcopbhaaGreatDoorMgEndFnRec15
import Derived.Deep.RegionWith

namespace Go.Proofs.YtfieimmlcopbhaaGreatDoor
open Go.RowKit

/-! ### 'string([]byte{x})' in a region that draws its order -/
theorem conv_byte {W0 W : World} {n : Int} (s : Nat) (hs : s < 256) (hn : n = s) (h : Ext (W0.alloc (.cells #[.int .u8 n] 5)) W) :
    (convert 43 9 (.slice (some ⟨W0.heap.size, 0, none⟩) 1 1)).run Tryz.prog W = .ok (.string ⟨#[UInt8.ofNat s]⟩) W :=
  run_convert_bytes_back (P := Tryz.prog) W 43 9 5 ⟨W0.heap.size, 0, none⟩ 1 [UInt8.ofNat s] Tryz.underlying43 Tryz.underlying5 Tryz.underlying9 (fun i hi => by
    have hi0 : i = 0 := by simpa using hi
    subst hi0
    subst hn
    have hu : (UInt8.ofNat s).toNat = s := by rw [UInt8.toNat_ofNat']; omega
    rw [add_eq, Nat.zero_add, h.box.1 0]
    simp only [List.getElem_cons_zero, hu]
    rfl)
theorem step_conv {P : Program} {ops : Array Oper} {o : Oper} {a : Act} {w : World} {K : Act → World → Prop} {Q : Exit → Act → World → Prop} {Z : Prop} (hgd : o.guard = none) (t t2 : TypeId) (x : Operand) (ho : o.op = .convert t t2 x) {v v' : Value} (hx : a.eval x = v)
    (hr : (convert t t2 v).run P w = .ok v' w) (hK : K (a.put o.dst v') w) : if Region.wanted o (yielded ops a.tmps) = true then Oper.wp P o a w K Q else Z := by
  have hw : Region.wanted o (yielded ops a.tmps) = true := by simp [Region.wanted, hgd]
  rw [if_pos hw]
  unfold Oper.wp
  simp [execOp, ho, hx, hr, Result.andThen]
  exact hK

set_option maxHeartbeats 400000 in
set_option maxRecDepth 20000 in
theorem spec_RecordName (v : Value) (r : Record) (w : World) (h : RecAt w v r) :
    Calls Tryz.prog 127 #[v] w fun e w2 => e = .returned (.string (recN r)) ∧ Ext w w2 := by
  obtain ⟨f, rfl, hI, hs⟩ := h
  have HB := hid (show ∀ W, Ext (w.alloc (.cells #[.int .i64 r.source, .int .i64 r.key, .int .i64 r.version, f] 24)) W → W.cell? ⟨w.heap.size, 0, none⟩ = some (.int .i64 r.source) ∧ W.cell? ⟨w.heap.size, 1, none⟩ = some (.int .i64 r.key) from fun W z => ⟨z.box.1 0, z.box.1 1⟩)
  go_enter Tryz.func127, Tryz.ntmps127
  go_wp2_with fail
  refine (spec_IsValidRecord _ r _ ⟨_, rfl, hI, hs.mono (by repeat (first | with_reducible exact Ext.refl _ | with_reducible assumption | with_reducible refine Ext.drew ?_ | with_reducible refine Ext.alloc ?_ _ | (refine Ext.setCell ?_ (by simp) _) | with_reducible refine Ext.trans ?_ (by with_reducible assumption)))⟩).mono ?_
  rintro e w1 ⟨rfl, x1⟩
  cases hok : okRec r with
  | false =>
    have hr := hid (show recN r = ⟨#[]⟩ by unfold recN; rw [if_neg (by simp [hok])])
    go_wp2
    go_ret
    exact ⟨by rw [hr.out]; rfl, (by repeat (first | with_reducible exact Ext.refl _ | with_reducible assumption | with_reducible refine Ext.drew ?_ | with_reducible refine Ext.alloc ?_ _ | with_reducible refine Ext.trans ?_ (by with_reducible assumption)))⟩
  | true =>
    have hr := hid (show recN r = orgN r.source r.key by unfold recN; rw [if_pos hok])
    obtain ⟨hb1, hb2⟩ := (okH_bounds (okRec_H hok)).1
    have hcv : ∀ W : World, (convert 43 9 (.slice (some ⟨W.heap.size, 0, none⟩) 1 1)).run Tryz.prog (W.alloc (.cells #[.int .u8 (97 + r.source)] 5)) = .ok (.string (letter r.source)) (W.alloc (.cells #[.int .u8 (97 + r.source)] 5)) :=
      fun W => conv_byte (97 + r.source.toNat) (by omega) (by omega) (Ext.refl _)
    have hcd : ∀ W : World, (convert 43 9 (.slice (some ⟨W.heap.size, 0, none⟩) 1 1)).run Tryz.prog (W.alloc (.cells #[.int .u8 (97 + r.source)] 5)).drew = .ok (.string (letter r.source)) (W.alloc (.cells #[.int .u8 (97 + r.source)] 5)).drew :=
      fun W => conv_byte (97 + r.source.toNat) (by omega) (by omega) (Ext.refl _).drew
    have hw1 : IntKind.i64.wrap (97 + r.source) = 97 + r.source := by rw [IntKind.wrap_i64]; omega
    have hw2 : IntKind.u8.wrap (97 + r.source) = 97 + r.source := by simp [IntKind.wrap, IntKind.bits, IntKind.signed]; omega
    have s1 := itoaS_size hI.2.1
    have e1 := letter_size r.source
    have q1 : ¬ 9223372036854775807 < (letter r.source).size + (itoaS r.key).size := by omega
    have HI := hid hI
    have HR := hid (And.intro hb1 hb2)
    clear hI hok
    go_wp2_with fail
    have q2 : ¬ 9223372036854775807 < 1 + (itoaS r.key).size := by omega
    obtain ⟨b0, b1⟩ := HB.out w1 x1
    obtain ⟨b4, b5⟩ := HB.out (w1.alloc (.cells #[.int .u8 (97 + r.source)] 5)) (x1.alloc _)
    obtain ⟨b6, b7⟩ := HB.out (w1.alloc (.cells #[.int .u8 (97 + r.source)] 5)).drew (x1.alloc _).drew
    go_region_with (first | (go_at_call 86; refine (spec_FormatInt _ _ HI.out.2.1).mono ?_; rintro e w5 ⟨rfl, x5⟩; obtain ⟨b2, b3⟩ := HB.out w5 (by repeat (first | with_reducible exact Ext.refl _ | with_reducible assumption | with_reducible refine Ext.drew ?_ | with_reducible refine Ext.alloc ?_ _ | with_reducible refine Ext.trans ?_ (by with_reducible assumption))); try have hcv5 : (convert 43 9 (.slice (some ⟨w1.heap.size, 0, none⟩) 1 1)).run Tryz.prog w5 = .ok (.string (letter r.source)) w5 := conv_byte (W0 := w1) (n := 97 + r.source) (97 + r.source.toNat) (by have := HR.out; omega) (by have := HR.out; omega) (Ext.trans (Ext.drew (Ext.refl _)) x5)))
    all_goals
      go_wp2
      go_ret
      exact ⟨by rw [hr.out]; rfl, (by repeat (first | with_reducible exact Ext.refl _ | with_reducible assumption | with_reducible refine Ext.drew ?_ | with_reducible refine Ext.alloc ?_ _ | with_reducible refine Ext.trans ?_ (by with_reducible assumption)))⟩
end Go.Proofs.YtfieimmlcopbhaaGreatDoor
