/-
  A record: how it lies; WALKS: szRecord, toRecord, eqRecord, RecordID (both).
-/
import Derived.Test.YtfcbapaojoecgaaGreatMgEndAppB0
import Derived.Deep.RegionHeld3

namespace Go.Proofs.YtfcbapaojoecgaaGreat
open Go.RowKit

structure Record where
  source : Int
  key : Int
  version : Int
  fields : List ByteArray
def Record.cells (r : Record) (f : Value) : List Value := [.int .i64 r.source, .int .i64 r.key, .int .i64 r.version, f]
def Record.ok (r : Record) : Prop := I64 r.source ∧ I64 r.key ∧ I64 r.version
def recordR : Rep Record := ⟨4, fun w cs r => ∃ f, cs = r.cells f ∧ r.ok ∧ Sl strR w f r.fields, fun ⟨_, h, _⟩ => by rw [h]; rfl, fun e ⟨f, h, k, s⟩ => ⟨f, h, k, s.mono e⟩⟩
def recordO : RepO Record :=
  { recordR with
    own := fun w cs r F => ∃ f, cs = r.cells f ∧ r.ok ∧ OwnSl strO w f r.fields F
    own_rd := fun ⟨f, h, k, s⟩ => ⟨f, h, k, s.sl⟩
    own_lt := fun ⟨_, _, _, s⟩ => s.lt
    own_keep := fun hk ⟨f, h, k, s⟩ => ⟨f, h, k, s.keep hk⟩ }
/-- the value v is the record r -/
def RecAt (w : World) (v : Value) (r : Record) : Prop := ∃ f, v = .agg #[.int .i64 r.source, .int .i64 r.key, .int .i64 r.version, f] ∧ r.ok ∧ Sl strR w f r.fields
def RecOwn (w : World) (v : Value) (r : Record) (F : List Nat) : Prop := ∃ f, v = .agg #[.int .i64 r.source, .int .i64 r.key, .int .i64 r.version, f] ∧ r.ok ∧ OwnSl strO w f r.fields F
theorem RecAt.mono {w w2 : World} {v : Value} {r : Record} (e : Ext w w2) (h : RecAt w v r) : RecAt w2 v r := let ⟨f, a, b, c⟩ := h; ⟨f, a, b, c.mono e⟩
theorem RecOwn.at_ {w : World} {v : Value} {r : Record} {F : List Nat} (h : RecOwn w v r F) : RecAt w v r := let ⟨f, a, b, c⟩ := h; ⟨f, a, b, c.sl⟩
theorem RecOwn.lt {w : World} {v : Value} {r : Record} {F : List Nat} (h : RecOwn w v r F) : ∀ b ∈ F, b < w.heap.size := let ⟨_, _, _, c⟩ := h; c.lt
theorem RecOwn.keep {w w2 : World} {v : Value} {r : Record} {F : List Nat} (h : RecOwn w v r F) (k : ∀ b ∈ F, w2.heap[b]? = w.heap[b]?) : RecOwn w2 v r F := let ⟨f, a, b, c⟩ := h; ⟨f, a, b, c.keep k⟩
theorem RecOwn.ext {w w2 : World} {v : Value} {r : Record} {F : List Nat} (h : RecOwn w v r F) (e : Ext w w2) : RecOwn w2 v r F := h.keep fun b hb => e.block (h.lt b hb)

def msRec (r : Record) : Nat := r.fields.length + sumSize r.fields
set_option maxHeartbeats 400000 in
theorem szRecord_c (v : Value) (r : Record) (left : Int) (w : World) (h : RecAt w v r) (h0 : 0 ≤ left) (h1 : left ≤ 1048576) :
    Calls Tryz.prog 79 #[v, .int .i64 left] w fun e w2 => e = .returned (.int .i64 (szv ((msRec r : Nat) : Int) left)) ∧ Ext w w2 := by
  unfold msRec
  obtain ⟨f, rfl, hok, hs⟩ := h
  go_enter Tryz.func79, Tryz.ntmps79
  go_wp2_with fail
  refine (szStringS_c _ r.fields _ _ (hs.mono ((Ext.refl _).alloc _)) h0 h1).mono ?_
  rintro e w2 ⟨rfl, x2⟩
  by_cases hs9 : left < ((r.fields.length + sumSize r.fields : Nat) : Int)
  · have HS := hid hs9
    rw [szv_neg hs9]
    clear hs9
    go_wp2
    go_ret
    exact ⟨ret_int (szv_neg HS.out).symm, (by repeat (first | with_reducible exact Ext.refl _ | with_reducible assumption | with_reducible refine Ext.drew ?_ | with_reducible refine Ext.alloc ?_ _ | with_reducible refine Ext.trans ?_ (by with_reducible assumption)))⟩
  · have hs0 := szv_nn hs9
    have hs1 := szv_le (n := ((r.fields.length + sumSize r.fields : Nat) : Int)) (left := left) (by omega) (by omega)
    obtain ⟨L, hL⟩ : ∃ L, L = szv ((r.fields.length + sumSize r.fields : Nat) : Int) left := ⟨_, rfl⟩
    rw [← hL] at hs0 hs1 ⊢
    have HL := hid hL
    clear hL
    have HS := hid hs9
    clear hs9
    go_wp2
    go_ret
    exact ⟨ret_int HL.out, (by repeat (first | with_reducible exact Ext.refl _ | with_reducible assumption | with_reducible refine Ext.drew ?_ | with_reducible refine Ext.alloc ?_ _ | with_reducible refine Ext.trans ?_ (by with_reducible assumption)))⟩

set_option maxHeartbeats 400000 in
theorem toRecord_c (v : Value) (r : Record) (w : World) (h : RecAt w v r) (hb : r.fields.length ≤ 1048576) :
    Calls Tryz.prog 89 #[v] w fun e w2 => ∃ v2 F, e = .returned v2 ∧ RecOwn w2 v2 r F ∧ NewF w F ∧ Ext w w2 := by
  obtain ⟨f, rfl, hok, hs⟩ := h
  go_enter Tryz.func89, Tryz.ntmps89
  go_wp2_with fail
  refine (toStringS_c _ r.fields _ (hs.mono (by repeat (first | with_reducible exact Ext.refl _ | with_reducible assumption | with_reducible refine Ext.drew ?_ | with_reducible refine Ext.alloc ?_ _ | with_reducible refine Ext.trans ?_ (by with_reducible assumption)))) hb).mono ?_
  rintro e w2 ⟨v2, F, rfl, ho, hn, x2⟩
  obtain ⟨A2, cap2, e2, _⟩ := ho.form
  subst e2
  obtain ⟨c2, f2⟩ := x2.box2
  obtain ⟨c1, f1⟩ := (((Ext.refl _).alloc _).trans x2).box1
  have hlt : ∀ b ∈ F, w.heap.size + 1 + 1 < b := fun b hb => by have := hn.2 b hb; simp at this; omega
  go_wp2
  refine bodyPost_ret (v := .agg #[.int .i64 r.source, .int .i64 r.key, .int .i64 r.version, .slice A2 r.fields.length cap2]) (by simp [results, Tryz.results89, go_sem, c1, f1]) rfl ?_
  have e9 := hn.ext (w := w) (by repeat (first | with_reducible exact Ext.refl _ | with_reducible assumption | with_reducible refine Ext.drew ?_ | with_reducible refine Ext.alloc ?_ _ | with_reducible refine Ext.trans ?_ (by with_reducible assumption)))
  have x9 : Ext w w2 := (by repeat (first | with_reducible exact Ext.refl _ | with_reducible assumption | with_reducible refine Ext.drew ?_ | with_reducible refine Ext.alloc ?_ _ | with_reducible refine Ext.trans ?_ (by with_reducible assumption)))
  clear hn x2 c1 f1 c2 f2
  refine ⟨_, F, rfl, ⟨_, rfl, hok, ?_⟩, e9, ?_⟩
  · repeat (first | with_reducible exact ho | (refine OwnSl.setCell ?_ (fun h9 => by have := hlt _ h9; simp only at this; omega) _))
  · repeat (refine Ext.setCell ?_ (by simp; try omega) _)
    exact x9

theorem Record.ext_iff4 (x y : Record) : x = y ↔ x.source = y.source ∧ x.key = y.key ∧ x.version = y.version ∧ x.fields = y.fields := by
  cases x; cases y; simp

set_option maxHeartbeats 400000 in
theorem eqRecord_c (v u : Value) (x y : Record) (w : World) (h : RecAt w v x) (k : RecAt w u y) :
    Calls Tryz.prog 109 #[v, u] w fun e w2 => e = .returned (.bool (eqB x y)) ∧ Ext w w2 := by
  obtain ⟨f, rfl, hok, hs⟩ := h
  obtain ⟨g, rfl, hok2, hs2⟩ := k
  by_cases h1 : x.source = y.source
  · by_cases h2 : x.key = y.key
    · by_cases h3 : x.version = y.version
      · have b1 : (x.source != y.source) = false := by simp [h1]
        have b2 : (x.key != y.key) = false := by simp [h2]
        have b3 : (x.version != y.version) = false := by simp [h3]
        have H := hid (And.intro h1 (And.intro h2 h3))
        clear h1 h2 h3
        go_enter Tryz.func109, Tryz.ntmps109
        go_wp2_with fail
        refine (eqStringS_c _ _ x.fields y.fields _ (hs.mono (by repeat (first | with_reducible exact Ext.refl _ | with_reducible assumption | with_reducible refine Ext.drew ?_ | with_reducible refine Ext.alloc ?_ _ | with_reducible refine Ext.trans ?_ (by with_reducible assumption)))) (hs2.mono (by repeat (first | with_reducible exact Ext.refl _ | with_reducible assumption | with_reducible refine Ext.drew ?_ | with_reducible refine Ext.alloc ?_ _ | with_reducible refine Ext.trans ?_ (by with_reducible assumption))))).mono ?_
        rintro e w2 ⟨rfl, x2⟩
        by_cases h4 : x.fields = y.fields
        · rw [eqB_true h4]
          have H4 := hid h4
          clear h4
          go_wp2
          go_ret
          exact ⟨ret_bool (eqB_true ((Record.ext_iff4 x y).2 ⟨H.out.1, H.out.2.1, H.out.2.2, H4.out⟩)).symm, (by repeat (first | with_reducible exact Ext.refl _ | with_reducible assumption | with_reducible refine Ext.drew ?_ | with_reducible refine Ext.alloc ?_ _ | with_reducible refine Ext.trans ?_ (by with_reducible assumption)))⟩
        · rw [eqB_false h4]
          have H4 := hid h4
          clear h4
          go_wp2
          go_ret
          exact ⟨ret_bool (eqB_false fun e => H4.out (by rw [e])).symm, (by repeat (first | with_reducible exact Ext.refl _ | with_reducible assumption | with_reducible refine Ext.drew ?_ | with_reducible refine Ext.alloc ?_ _ | with_reducible refine Ext.trans ?_ (by with_reducible assumption)))⟩
      · have b1 : (x.source != y.source) = false := by simp [h1]
        have b2 : (x.key != y.key) = false := by simp [h2]
        have b3 : (x.version != y.version) = true := by simp [h3]
        have H := hid h3
        clear h1 h2 h3
        go_enter Tryz.func109, Tryz.ntmps109
        go_wp2
        go_ret
        exact ⟨ret_bool (eqB_false fun e => H.out (by rw [e])).symm, (by repeat (first | with_reducible exact Ext.refl _ | with_reducible assumption | with_reducible refine Ext.drew ?_ | with_reducible refine Ext.alloc ?_ _ | with_reducible refine Ext.trans ?_ (by with_reducible assumption)))⟩
    · have b1 : (x.source != y.source) = false := by simp [h1]
      have b2 : (x.key != y.key) = true := by simp [h2]
      have H := hid h2
      clear h1 h2
      go_enter Tryz.func109, Tryz.ntmps109
      go_wp2
      go_ret
      exact ⟨ret_bool (eqB_false fun e => H.out (by rw [e])).symm, (by repeat (first | with_reducible exact Ext.refl _ | with_reducible assumption | with_reducible refine Ext.drew ?_ | with_reducible refine Ext.alloc ?_ _ | with_reducible refine Ext.trans ?_ (by with_reducible assumption)))⟩
  · have b1 : (x.source != y.source) = true := by simp [h1]
    have H := hid h1
    clear h1
    go_enter Tryz.func109, Tryz.ntmps109
    go_wp2
    go_ret
    exact ⟨ret_bool (eqB_false fun e => H.out (by rw [e])).symm, (by repeat (first | with_reducible exact Ext.refl _ | with_reducible assumption | with_reducible refine Ext.drew ?_ | with_reducible refine Ext.alloc ?_ _ | with_reducible refine Ext.trans ?_ (by with_reducible assumption)))⟩

theorem reads_record {t : TypeId} {f0 f1 f2 f3 : Field} (ht : Tryz.prog.underlying t = some (.struct #[f0, f1, f2, f3])) (hc : Tryz.prog.cellsOf t = 4)
    (h0 : f0.type = 3 ∧ f0.offset = 0) (h1 : f1.type = 3 ∧ f1.offset = 1) (h2 : f2.type = 3 ∧ f2.offset = 2) (h3 : f3.type = 70 ∧ f3.offset = 3) : Reads Tryz.prog t recordR := by
  refine ⟨hc, fun h => ?_⟩
  obtain ⟨a, e0, w0⟩ := Reads.field ht h 0 f0 rfl (h0.1 ▸ rInt)
  obtain ⟨b, e1, w1⟩ := Reads.field ht h 1 f1 rfl (h1.1 ▸ rInt)
  obtain ⟨s, e2, w2⟩ := Reads.field ht h 2 f2 rfl (h2.1 ▸ rInt)
  obtain ⟨l, v, e3, w3⟩ := Reads.field ht h 3 f3 rfl (h3.1 ▸ rStrs)
  rw [h0.2] at e0; rw [h1.2] at e1; rw [h2.2] at e2; rw [h3.2] at e3
  exact ⟨⟨a, b, s, l⟩, v, list4 ((struct_len ht h).trans hc) e0 e1 e2 e3, ⟨w0, w1, w2⟩, w3⟩
theorem rLawRecord : Reads Tryz.prog 108 recordR := reads_record Tryz.underlying108 (by kernel_rfl) ⟨rfl, rfl⟩ ⟨rfl, rfl⟩ ⟨rfl, rfl⟩ ⟨rfl, rfl⟩
theorem rLawRecords : Reads Tryz.prog 22 (slR recordR) := reads_slice Tryz.underlying22 (by kernel_rfl) (by decide) rLawRecord
end Go.Proofs.YtfcbapaojoecgaaGreat
