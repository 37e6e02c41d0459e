/-
  A store: how it lies; WALKS: szStore, toStore, eqStore.
-/
import Derived.Test.YtbhhbdilaihegaaRecS
import Derived.Test.YtbhhbdilaihegaaVerS
namespace Go.Proofs.Ytbhhbdilaihegaa
open Go.RowKit

structure Store where
  version : Int
  records : List Record
  verdicts : List Verdict
def StoAt (w : World) (v : Value) (s : Store) : Prop := ∃ r d, v = .agg #[.int .i64 s.version, r, d] ∧ I64 s.version ∧ Sl recordR w r s.records ∧ Sl verdictR w d s.verdicts
def StoOwn (w : World) (v : Value) (s : Store) (F : List Nat) : Prop := ∃ r d F1 F2, v = .agg #[.int .i64 s.version, r, d] ∧ I64 s.version ∧ OwnSl recordO w r s.records F1 ∧ OwnSl verdictO w d s.verdicts F2 ∧ F = F1 ++ F2
theorem StoAt.mono {w w2 : World} {v : Value} {s : Store} (x : Ext w w2) (h : StoAt w v s) : StoAt w2 v s := let ⟨r, d, a, b, c, e⟩ := h; ⟨r, d, a, b, c.mono x, e.mono x⟩
theorem StoOwn.at_ {w : World} {v : Value} {s : Store} {F : List Nat} (h : StoOwn w v s F) : StoAt w v s := let ⟨r, d, _, _, a, b, c, e, _⟩ := h; ⟨r, d, a, b, c.sl, e.sl⟩
theorem StoOwn.lt {w : World} {v : Value} {s : Store} {F : List Nat} (h : StoOwn w v s F) : ∀ b ∈ F, b < w.heap.size := by
  obtain ⟨_, _, F1, F2, _, _, c, e, rfl⟩ := h
  intro b hb
  rcases List.mem_append.1 hb with hb | hb
  · exact c.lt b hb
  · exact e.lt b hb
theorem StoOwn.keep {w w2 : World} {v : Value} {s : Store} {F : List Nat} (h : StoOwn w v s F) (k : ∀ b ∈ F, w2.heap[b]? = w.heap[b]?) : StoOwn w2 v s F := by
  obtain ⟨r, d, F1, F2, a, b, c, e, rfl⟩ := h
  exact ⟨r, d, F1, F2, a, b, c.keep fun b hb => k b (List.mem_append_left _ hb), e.keep fun b hb => k b (List.mem_append_right _ hb), rfl⟩
theorem StoOwn.ext {w w2 : World} {v : Value} {s : Store} {F : List Nat} (h : StoOwn w v s F) (x : Ext w w2) : StoOwn w2 v s F := h.keep fun b hb => x.block (h.lt b hb)
def msRecs (xs : List Record) : Nat := xs.length + sumBy msRec xs
def msSto (s : Store) : Nat := msRecs s.records + s.verdicts.length

set_option maxHeartbeats 400000 in
theorem szStore_c (v : Value) (s : Store) (left : Int) (w : World) (h : StoAt w v s) (h0 : 0 ≤ left) (h1 : left ≤ 1048576) :
    Calls Try.prog 38 #[v, .int .i64 left] w fun e w2 => e = .returned (.int .i64 (szv ((msSto s : Nat) : Int) left)) ∧ Ext w w2 := by
  obtain ⟨r, d, rfl, hI, hr, hd⟩ := h
  go_enter Try.func38, Try.ntmps38
  go_wp2_with fail
  refine (szRecordS_c _ s.records _ _ (hr.mono (by repeat (first | with_reducible exact Ext.refl _ | with_reducible assumption | with_reducible refine Ext.drew ?_ | with_reducible refine Ext.alloc ?_ _ | (refine Ext.setCell ?_ (by simp) _) | with_reducible refine Ext.trans ?_ (by with_reducible assumption)))) h0 h1).mono ?_
  rintro e w2 ⟨rfl, x2⟩
  rw [show ((s.records.length + sumBy msRec s.records : Nat) : Int) = ((msRecs s.records : Nat) : Int) from rfl]
  obtain ⟨c2, f2⟩ := x2.box
  by_cases hf : left < (msRecs s.records : Nat)
  · rw [szv_neg hf]
    have HF := hid hf
    clear hf
    go_wp2
    go_ret
    exact ⟨ret_int (by symm; refine szv_neg ?_; have := HF.out; unfold msSto; omega), (by repeat (first | with_reducible exact Ext.refl _ | with_reducible assumption | with_reducible refine Ext.drew ?_ | with_reducible refine Ext.alloc ?_ _ | (refine Ext.setCell ?_ (by simp) _) | with_reducible refine Ext.trans ?_ (by with_reducible assumption)))⟩
  · rw [show szv ((msRecs s.records : Nat) : Int) left = left - (msRecs s.records : Nat) by unfold szv; rw [if_neg hf]]
    go_wp2_with fail
    refine (szVerdictS_c _ s.verdicts _ _ (hd.mono (by repeat (first | with_reducible exact Ext.refl _ | with_reducible assumption | with_reducible refine Ext.drew ?_ | with_reducible refine Ext.alloc ?_ _ | (refine Ext.setCell ?_ (by simp) _) | with_reducible refine Ext.trans ?_ (by with_reducible assumption)))) (by omega) (by omega)).mono ?_
    rintro e w3 ⟨rfl, x3⟩
    by_cases hg : left - (msRecs s.records : Nat) < (s.verdicts.length : Nat)
    · rw [szv_neg hg]
      have HG := hid hg
      clear hg
      go_wp2
      go_ret
      exact ⟨ret_int (by symm; refine szv_neg ?_; have := HG.out; unfold msSto; omega), (by repeat (first | with_reducible exact Ext.refl _ | with_reducible assumption | with_reducible refine Ext.drew ?_ | with_reducible refine Ext.alloc ?_ _ | (refine Ext.setCell ?_ (by simp) _) | with_reducible refine Ext.trans ?_ (by with_reducible assumption)))⟩
    · rw [show szv ((s.verdicts.length : Nat) : Int) (left - (msRecs s.records : Nat)) = left - (msRecs s.records : Nat) - (s.verdicts.length : Nat) by unfold szv; rw [if_neg hg]]
      go_wp2
      go_ret
      exact ⟨ret_int (by unfold szv msSto; rw [if_neg (by omega)]; omega), (by repeat (first | with_reducible exact Ext.refl _ | with_reducible assumption | with_reducible refine Ext.drew ?_ | with_reducible refine Ext.alloc ?_ _ | (refine Ext.setCell ?_ (by simp) _) | with_reducible refine Ext.trans ?_ (by with_reducible assumption)))⟩

set_option maxHeartbeats 400000 in
set_option maxRecDepth 20000 in
theorem toStore_c (v : Value) (s : Store) (w : World) (h : StoAt w v s) (hb : msSto s ≤ 1048576) :
    Calls Try.prog 40 #[v] w fun e w2 => ∃ v2 F, e = .returned v2 ∧ StoOwn w2 v2 s F ∧ NewF w F ∧ Ext w w2 := by
  obtain ⟨r, d, rfl, hI, hr, hd⟩ := h
  have hb0 : s.records.length + sumBy msRec s.records ≤ 1048576 := by unfold msSto msRecs at hb; omega
  have hb1 : s.verdicts.length ≤ 1048576 := by unfold msSto at hb; omega
  go_enter Try.func40, Try.ntmps40
  go_wp2_with fail
  refine (toRecordS_c _ s.records _ (hr.mono (by repeat (first | with_reducible exact Ext.refl _ | with_reducible assumption | with_reducible refine Ext.drew ?_ | with_reducible refine Ext.alloc ?_ _ | (refine Ext.setCell ?_ (by simp) _) | with_reducible refine Ext.trans ?_ (by with_reducible assumption)))) hb0).mono ?_
  rintro e w2 ⟨v2, F, rfl, ho, hn, x2⟩
  obtain ⟨A2, cap2, e2, _⟩ := ho.form
  subst e2
  have B3 : Blk w2 (w.heap.size + 1 + 1) 54 [.int .i64 s.version, .slice none 0 0, .slice none 0 0] := by
    have := (Blk.new ((w.alloc (.cells #[.int .i64 s.version, r, d] 49)).alloc (.cells #[.int .i64 0, .slice none 0 0, .slice none 0 0] 54)) 54 #[.int .i64 s.version, .slice none 0 0, .slice none 0 0]).ext x2
    simpa using this
  have B2 : Blk w2 (w.heap.size + 1) 54 [.int .i64 0, .slice none 0 0, .slice none 0 0] := by
    have := (Blk.new (w.alloc (.cells #[.int .i64 s.version, r, d] 49)) 54 #[.int .i64 0, .slice none 0 0, .slice none 0 0]).ext (((Ext.refl _).alloc _).trans x2)
    simpa using this
  have B1 : Blk w2 w.heap.size 49 [.int .i64 s.version, r, d] := by
    have := (Blk.new w 49 #[.int .i64 s.version, r, d]).ext ((((Ext.refl _).alloc _).alloc _).trans x2)
    simpa using this
  have hlt : ∀ b ∈ F, w.heap.size + 1 + 1 < b := fun b hb => by have := hn.2 b hb; simp at this; omega
  have hnw := hn.ext (w := w) (by repeat (first | with_reducible exact Ext.refl _ | with_reducible assumption | with_reducible refine Ext.drew ?_ | with_reducible refine Ext.alloc ?_ _ | (refine Ext.setCell ?_ (by simp) _) | with_reducible refine Ext.trans ?_ (by with_reducible assumption)))
  have xw : Ext w w2 := (by repeat (first | with_reducible exact Ext.refl _ | with_reducible assumption | with_reducible refine Ext.drew ?_ | with_reducible refine Ext.alloc ?_ _ | (refine Ext.setCell ?_ (by simp) _) | with_reducible refine Ext.trans ?_ (by with_reducible assumption)))
  clear hn x2
  have B3c := B3.cells
  have B1c := B1.cells
  have B3s := (B3.store (done := [.int .i64 s.version]) (rest := [.slice none 0 0]) (z := .slice none 0 0) rfl (.slice A2 s.records.length cap2))
  have B2s : Blk (w2.setCell ⟨w.heap.size + 1 + 1, 1, none⟩ (.slice A2 s.records.length cap2)) (w.heap.size + 1) 54 [.int .i64 0, .slice none 0 0, .slice none 0 0] := B2.keep (keep_setCell (by simp))
  have B1s : Blk (w2.setCell ⟨w.heap.size + 1 + 1, 1, none⟩ (.slice A2 s.records.length cap2)) w.heap.size 49 [.int .i64 s.version, r, d] := B1.keep (keep_setCell (by simp; omega))
  have B1c2 := B1s.cells
  have xs : Ext w (w2.setCell ⟨w.heap.size + 1 + 1, 1, none⟩ (.slice A2 s.records.length cap2)) := xw.setCell (by simp; omega) _
  have hos : OwnSl recordO (w2.setCell ⟨w.heap.size + 1 + 1, 1, none⟩ (.slice A2 s.records.length cap2)) (.slice A2 s.records.length cap2) s.records F := ho.setCell (fun h9 => by have := hlt _ h9; simp only at this; omega) _
  have hlo := hos.lt
  clear B1 B2 B3 B1s ho
  go_wp2_with fail
  refine (toVerdictS_c _ s.verdicts _ (hd.mono xs) hb1).mono ?_
  rintro e w4 ⟨v4, F4, rfl, ho4, hn4, x4⟩
  obtain ⟨A4, cap4, e4, _⟩ := ho4.form
  subst e4
  have B3c4 := (B3s.ext x4).cells
  have B2c4 := (B2s.ext x4).cells
  have hlt4 : ∀ b ∈ F4, w.heap.size + 1 + 1 < b := fun b hb => by have h1 := hn4.2 b hb; have h2 : w.heap.size + 1 + 1 < (w2.setCell ⟨w.heap.size + 1 + 1, 1, none⟩ (.slice A2 s.records.length cap2)).heap.size := block_lt B3s.out; omega
  have hn5 : NewF w (F ++ F4) := NewF.append hnw hn4 xs hlo
  have ho5 := hos.ext x4
  have x5 := xs.trans x4
  clear B1c2 B3c B1c B3s B2s hos hlo hn4 x4 xs
  simp only [List.cons_append, List.nil_append, List.singleton_append] at B3c4
  obtain ⟨c3, f3⟩ := B3c4
  obtain ⟨c2, f2⟩ := B2c4
  go_wp2
  refine bodyPost_ret (v := .agg #[.int .i64 s.version, .slice A2 s.records.length cap2, .slice A4 s.verdicts.length cap4]) (by simp [results, Try.results40, go_sem, c2, f2, c3, f3]) rfl ?_
  clear c2 f2 c3 f3
  refine ⟨_, F ++ F4, rfl, ⟨_, _, F, F4, rfl, hI, ?_, ?_, rfl⟩, hn5, ?_⟩
  · repeat (first | with_reducible exact ho5 | (refine OwnSl.setCell ?_ (fun h9 => by have := hlt _ h9; simp only at this; omega) _))
  · repeat (first | with_reducible exact ho4 | (refine OwnSl.setCell ?_ (fun h9 => by have := hlt4 _ h9; simp only at this; omega) _))
  · repeat (refine Ext.setCell ?_ (by simp; try omega) _)
    exact x5

theorem Store.eta (x y : Store) : x = y ↔ x.version = y.version ∧ x.records = y.records ∧ x.verdicts = y.verdicts := by
  cases x; cases y; simp
set_option maxHeartbeats 400000 in
theorem eqStore_c (v u : Value) (x y : Store) (w : World) (h : StoAt w v x) (k : StoAt w u y) :
    Calls Try.prog 42 #[v, u] w fun e w2 => e = .returned (.bool (eqB x y)) ∧ Ext w w2 := by
  obtain ⟨r, d, rfl, hI, hr, hd⟩ := h
  obtain ⟨r', d', rfl, hI', hr', hd'⟩ := k
  by_cases h1 : x.version = y.version
  · have b1 : (x.version != y.version) = false := by simp [h1]
    have H := hid h1
    clear h1
    go_enter Try.func42, Try.ntmps42
    go_wp2_with fail
    refine (eqRecordS_c _ _ x.records y.records _ (hr.mono (by repeat (first | with_reducible exact Ext.refl _ | with_reducible assumption | with_reducible refine Ext.drew ?_ | with_reducible refine Ext.alloc ?_ _ | (refine Ext.setCell ?_ (by simp) _) | with_reducible refine Ext.trans ?_ (by with_reducible assumption)))) (hr'.mono (by repeat (first | with_reducible exact Ext.refl _ | with_reducible assumption | with_reducible refine Ext.drew ?_ | with_reducible refine Ext.alloc ?_ _ | (refine Ext.setCell ?_ (by simp) _) | with_reducible refine Ext.trans ?_ (by with_reducible assumption))))).mono ?_
    rintro e w2 ⟨rfl, x2⟩
    have c1 := x2.box1.1
    have c0 := ((((Ext.refl _).alloc _) : Ext (w.alloc (.cells #[.int .i64 x.version, r, d] 54)) _).trans x2).box.1
    by_cases h4 : x.records = y.records
    · rw [eqB_true h4]
      have H4 := hid h4
      clear h4
      go_wp2_with fail
      refine (eqVerdictS_c _ _ x.verdicts y.verdicts _ (hd.mono (by repeat (first | with_reducible exact Ext.refl _ | with_reducible assumption | with_reducible refine Ext.drew ?_ | with_reducible refine Ext.alloc ?_ _ | (refine Ext.setCell ?_ (by simp) _) | with_reducible refine Ext.trans ?_ (by with_reducible assumption)))) (hd'.mono (by repeat (first | with_reducible exact Ext.refl _ | with_reducible assumption | with_reducible refine Ext.drew ?_ | with_reducible refine Ext.alloc ?_ _ | (refine Ext.setCell ?_ (by simp) _) | with_reducible refine Ext.trans ?_ (by with_reducible assumption))))).mono ?_
      rintro e w3 ⟨rfl, x3⟩
      by_cases h5 : x.verdicts = y.verdicts
      · rw [eqB_true h5]
        have H5 := hid h5
        clear h5
        go_wp2
        go_ret
        exact ⟨ret_bool (eqB_true ((Store.eta x y).2 ⟨H.out, H4.out, H5.out⟩)).symm, (by repeat (first | with_reducible exact Ext.refl _ | with_reducible assumption | with_reducible refine Ext.drew ?_ | with_reducible refine Ext.alloc ?_ _ | (refine Ext.setCell ?_ (by simp) _) | with_reducible refine Ext.trans ?_ (by with_reducible assumption)))⟩
      · rw [eqB_false h5]
        have H5 := hid h5
        clear h5
        go_wp2
        go_ret
        exact ⟨ret_bool (eqB_false fun e => H5.out (by rw [e])).symm, (by repeat (first | with_reducible exact Ext.refl _ | with_reducible assumption | with_reducible refine Ext.drew ?_ | with_reducible refine Ext.alloc ?_ _ | (refine Ext.setCell ?_ (by simp) _) | with_reducible refine Ext.trans ?_ (by with_reducible assumption)))⟩
    · rw [eqB_false h4]
      have H4 := hid h4
      clear h4
      go_wp2
      go_ret
      exact ⟨ret_bool (eqB_false fun e => H4.out (by rw [e])).symm, (by repeat (first | with_reducible exact Ext.refl _ | with_reducible assumption | with_reducible refine Ext.drew ?_ | with_reducible refine Ext.alloc ?_ _ | (refine Ext.setCell ?_ (by simp) _) | with_reducible refine Ext.trans ?_ (by with_reducible assumption)))⟩
  · have b1 : (x.version != y.version) = true := by simp [h1]
    have H := hid h1
    clear h1
    go_enter Try.func42, Try.ntmps42
    go_wp2
    go_ret
    exact ⟨ret_bool (eqB_false fun e => H.out (by rw [e])).symm, (by repeat (first | with_reducible exact Ext.refl _ | with_reducible assumption | with_reducible refine Ext.drew ?_ | with_reducible refine Ext.alloc ?_ _ | (refine Ext.setCell ?_ (by simp) _) | with_reducible refine Ext.trans ?_ (by with_reducible assumption)))⟩

theorem under_store : ∃ f0 f1 f2, Try.prog.underlying 49 = some (.struct #[f0, f1, f2]) ∧ (f0.type = 3 ∧ f0.offset = 0) ∧ (f1.type = 47 ∧ f1.offset = 1) ∧ (f2.type = 22 ∧ f2.offset = 2) := ⟨_, _, _, Try.underlying49, ⟨rfl, rfl⟩, ⟨rfl, rfl⟩, ⟨rfl, rfl⟩⟩
def storeR : Rep Store := ⟨3, fun w cs s => ∃ r d, cs = [.int .i64 s.version, r, d] ∧ I64 s.version ∧ Sl recordR w r s.records ∧ Sl verdictR w d s.verdicts, fun ⟨_, _, h, _⟩ => by rw [h]; rfl, fun x ⟨r, d, a, b, c, e⟩ => ⟨r, d, a, b, c.mono x, e.mono x⟩⟩
theorem list3 {cs : List Value} (h : cs.length = 3) {a b c : Value} (ha : (cs.drop 0).take 1 = [a]) (hb : (cs.drop 1).take 1 = [b]) (hc : (cs.drop 2).take 1 = [c]) : cs = [a, b, c] := by
  match cs, h with
  | [x, y, z], _ => simp_all
theorem rLawStore : Reads Try.prog 49 storeR := by
  refine ⟨by kernel_rfl, fun h => ?_⟩
  have ht := Try.underlying49
  obtain ⟨a, e0, w0⟩ := Reads.field ht h 0 _ rfl rInt
  obtain ⟨l, v1, e1, w1⟩ := Reads.field ht h 1 _ rfl rLawRecords
  obtain ⟨m, v2, e2, w2⟩ := Reads.field ht h 2 _ rfl rLawVerdicts
  exact ⟨⟨a, l, m⟩, v1, v2, list3 ((struct_len ht h).trans (by kernel_rfl)) e0 e1 e2, w0, w1, w2⟩
end Go.Proofs.Ytbhhbdilaihegaa
