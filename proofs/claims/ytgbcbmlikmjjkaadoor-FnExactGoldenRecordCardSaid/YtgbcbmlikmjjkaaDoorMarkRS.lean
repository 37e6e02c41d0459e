/-
  WALKS: the laws' markText, markStringS, heldStringS, markRecordS.
-/
import Derived.Test.YtgbcbmlikmjjkaaDoorChg
import Derived.Test.YtgbcbmlikmjjkaaDoorStrs
import Derived.Test.YtgbcbmlikmjjkaaDoorRecS
import Derived.Laws.IdiomStrings
import Derived.Laws.Concat
namespace Go.Proofs.YtgbcbmlikmjjkaaDoor
open Go.RowKit

/-- the digits of a number, ahead of a text -/
def mtL : Nat → Nat → ByteArray → ByteArray
  | 0, _, s => s
  | f + 1, j, s => if j = 0 then s else mtL f (j / 10) (⟨#[UInt8.ofNat (48 + (j : Int) % 10).toNat]⟩ ++ s)
def mkT (k : Int) : ByteArray := if k ≤ 0 then ⟨#[109, 48]⟩ else ⟨#[109]⟩ ++ mtL k.toNat k.toNat ⟨#[]⟩
theorem mtL_zero (f : Nat) (s : ByteArray) : mtL f 0 s = s := by cases f <;> rfl
theorem mtL_step {f j : Nat} {s : ByteArray} (hj : 0 < j) (hf : j ≤ f) : ∃ f2, j / 10 ≤ f2 ∧ mtL f j s = mtL f2 (j / 10) (⟨#[UInt8.ofNat (48 + (j : Int) % 10).toNat]⟩ ++ s) := by
  cases f with
  | zero => omega
  | succ f =>
    refine ⟨f, by omega, ?_⟩
    rw [mtL, if_neg (by omega)]
theorem mkT_pos {k : Int} (h : ¬ k ≤ 0) : mkT k = ⟨#[109]⟩ ++ mtL k.toNat k.toNat ⟨#[]⟩ := by unfold mkT; rw [if_neg h]
theorem mkT_no {k : Int} (h : k ≤ 0) : mkT k = ⟨#[109, 48]⟩ := by unfold mkT; rw [if_pos h]

set_option maxHeartbeats 400000 in
set_option maxRecDepth 20000 in
theorem markText_t (k : Int) (w : World) (h0 : 0 ≤ k) (h1 : k ≤ 1152921504606846976) :
    Calls Tryd.prog 96 #[.int .i64 k] w fun e w2 => e = .returned (.string (mkT k)) ∧ (mkT k).size ≤ maxLen ∧ Ext w w2 := by
  by_cases hz : k ≤ 0
  · have HM := hid (mkT_no hz)
    go_enter Tryd.func96, Tryd.ntmps96
    go_wp2
    go_ret
    exact ⟨by rw [HM.out]; rfl, by rw [HM.out]; decide, Ext.refl _⟩
  · have HM := hid (mkT_pos hz)
    go_enter Tryd.func96, Tryd.ntmps96
    go_wp2
    go_loopw [0, 3] (fun n o wr => ∃ (j : Nat) (s : ByteArray), n = .int .i64 j ∧ o = .string s ∧ s.size + j ≤ 1152921504606846976 ∧ (∃ f, j ≤ f ∧ mtL f j s = mtL k.toNat k.toNat ⟨#[]⟩) ∧ Ext w wr) (fun n _ _ => (intOf n).toNat)
    case atStart => exact ⟨k.toNat, ByteArray.empty, by rw [Int.toNat_of_nonneg h0], rfl, by simp; omega, ⟨k.toNat, Nat.le_refl _, rfl⟩, Ext.refl _⟩
    case round =>
      obtain ⟨j, s, rfl, rfl, hs, hm, hx⟩ := hrel
      have HMT := hid hm
      clear hm
      by_cases hj : 0 < j
      · have hcv : (convert 93 9 (.slice (some ⟨wr.heap.size, 0, none⟩) 1 1)).run Tryd.prog (wr.alloc (.cells #[.int .u8 (48 + (j : Int) % 10)] 5)) = .ok (.string ⟨#[UInt8.ofNat (48 + (j : Int) % 10).toNat]⟩) (wr.alloc (.cells #[.int .u8 (48 + (j : Int) % 10)] 5)) :=
          run_convert_bytes_back (P := Tryd.prog) (wr.alloc (.cells #[.int .u8 (48 + (j : Int) % 10)] 5)) 93 9 5 ⟨wr.heap.size, 0, none⟩ 1 [UInt8.ofNat (48 + (j : Int) % 10).toNat] Tryd.underlying93 Tryd.underlying5 Tryd.underlying9 (fun i hi => by
            have hi0 : i = 0 := by simpa using hi
            subst hi0
            have hu : (UInt8.ofNat (48 + (j : Int) % 10).toNat).toNat = (48 + (j : Int) % 10).toNat := by simp; omega
            have e := (Ext.refl (wr.alloc (.cells #[.int .u8 (48 + (j : Int) % 10)] 5))).box.1 0
            rw [add_eq, Nat.zero_add]
            simp only [List.getElem_cons_zero, hu]
            rw [e, Int.toNat_of_nonneg (by omega)]
            rfl)
        have hnew : Hid (∃ f, j / 10 ≤ f ∧ mtL f (j / 10) (⟨#[UInt8.ofNat (48 + (j : Int) % 10).toNat]⟩ ++ s) = mtL k.toNat k.toNat ⟨#[]⟩) := by
          obtain ⟨f, hf, e⟩ := HMT.out
          obtain ⟨f2, hf2, e2⟩ := mtL_step (s := s) hj hf
          exact hid ⟨f2, hf2, e2 ▸ e⟩
        have HL := hid (show (j : Int) / 10 < j by omega)
        have hs2 : s.size ≤ 1152921504606846976 := by omega
        generalize hx9 : UInt8.ofNat (48 + (j : Int) % 10).toNat = x9 at hcv hnew
        clear hx9
        have hsz : (⟨#[x9]⟩ : ByteArray).size = 1 := rfl
        go_wp2
        go_roundw
        case rel => exact ⟨j / 10, ⟨#[x9]⟩ ++ s, by go_num, rfl, by rw [ByteArray.size_append, hsz]; omega, hnew.out, hx.alloc _⟩
        case measure => have := HL.out; simp [intOf]; omega
      · have hj0 : Hid (mkT k = ⟨#[109]⟩ ++ s) := by
          obtain ⟨f, hf, e⟩ := HMT.out
          have : j = 0 := by omega
          subst this
          rw [mtL_zero] at e
          exact hid (by rw [HM.out, ← e])
        go_wp2
        go_ret
        exact ⟨by rw [hj0.out]; rfl, by rw [hj0.out, ByteArray.size_append]; unfold maxLen; have : (⟨#[109]⟩ : ByteArray).size = 1 := rfl; omega, hx⟩

theorem OwnSl.str_store {w : World} {v : Value} {xs : List ByteArray} {F : List Nat} (h : OwnSl strO w v xs F) (hN : F.Nodup) {i : Nat} (hi : i < xs.length) : ∃ g off cap, v = .slice (some ⟨g, off, none⟩) xs.length cap ∧ g ∈ F ∧
    w.cell? ⟨g, off + i, none⟩ = some (.string xs[i]) ∧ w.frozen? ⟨g, off + i, none⟩ = false ∧ ∀ x : ByteArray, x.size ≤ maxLen → OwnSl strO (w.setCell ⟨g, off + i, none⟩ (.string x)) v (xs.set i x) F := by
  obtain ⟨g, off, cap, c, F1, rfl, hg, _, _, _, ⟨⟨rfl, _⟩, rfl⟩, _, hc, hf, _, hst⟩ := h.elem hN hi
  have h1 : strO.n = 1 := rfl
  refine ⟨g, off, cap, rfl, hg, ?_, hf _, fun x hx => ?_⟩
  · simpa [h1] using hc 0 (by omega)
  · have := hst 0 (.string x) x (by omega) ⟨⟨rfl, hx⟩, rfl⟩
    simpa [h1] using this

/-- the marks of k, of k + 1 and so on -/
def MkS (k : Int) (ys : List ByteArray) : Prop := ∀ i, i < ys.length → ys[i]? = some (mkT (k + i))

set_option maxHeartbeats 400000 in
theorem markStringS_t (v : Value) (xs : List ByteArray) (F : List Nat) (k : Int) (w : World) (h : OwnSl strO w v xs F) (hN : F.Nodup) (h0 : 0 ≤ k) (hb : k + xs.length ≤ 1152921504606846976) :
    Calls Tryd.prog 47 #[v, .int .i64 k] w fun e w2 => ∃ ys, e = .returned (.int .i64 (k + xs.length)) ∧ OwnSl strO w2 v ys F ∧ ys.length = xs.length ∧ MkS k ys ∧ Chg F w w2 := by
  obtain ⟨A, cap, rfl, hm⟩ := h.form
  go_enter Tryd.func47, Tryd.ntmps47
  go_wp2
  go_loopw [1, 5] (fun l i wr => ∃ (j : Nat) (ys : List ByteArray), j ≤ xs.length ∧ i = .int .i64 j ∧ l = .int .i64 (k + j) ∧ OwnSl strO wr (.slice A xs.length cap) ys F ∧ Hid (ys.length = xs.length) ∧ Hid (∀ i, i < j → ys[i]? = some (mkT (k + i))) ∧ Chg F w wr) (fun _ i _ => xs.length - (intOf i).toNat)
  case atStart => exact ⟨0, xs, Nat.zero_le _, rfl, by simp, h, hid rfl, hid (fun i hi => absurd hi (Nat.not_lt_zero _)), .refl _ _⟩
  case round =>
    obtain ⟨j, ys, hj, rfl, rfl, ho, hy, hmk, hc⟩ := hrel
    by_cases hlt : j < xs.length
    · go_wp2_with fail
      refine (markText_t (k + j) _ (by omega) (by omega)).mono ?_
      rintro e w2 ⟨rfl, hs, x2⟩
      have ho2 := ho.ext x2
      obtain ⟨g, off, cap2, e, hg, hcell, hfr, hst⟩ := ho2.str_store hN (i := j) (by rw [hy.out]; exact hlt)
      injection e with e1 e2 e3
      subst e1
      have HS := hid (hst (mkT (k + j)) hs)
      have hnew : Hid (∀ i, i < j + 1 → (ys.set j (mkT (k + j)))[i]? = some (mkT (k + i))) := hid (fun i hi => by
        rw [List.getElem?_set]
        by_cases e : j = i
        · subst e
          rw [if_pos rfl, if_pos (by rw [hy.out]; exact hlt)]
        · rw [if_neg e]
          exact hmk.out i (by omega))
      have hlt2 := hc.trans (Chg.of_ext x2)
      clear hst e2 e3
      go_wp2
      go_roundw
      case rel => exact ⟨j + 1, _, by omega, by go_num, by go_num, HS.out, hid (by rw [List.length_set]; exact hy.out), hnew, hlt2.setCell hg _⟩
      case measure => simp [intOf]; omega
    · go_wp2
      go_ret
      exact ⟨ys, ret_int (by omega), ho, hy.out, (fun i hi => hmk.out i (by have := hy.out; omega)), hc⟩

set_option maxHeartbeats 400000 in
set_option maxRecDepth 20000 in
theorem heldStringS_c (v : Value) (ys : List ByteArray) (k : Int) (w : World) (h : Sl strR w v ys) (hi : MkS k ys) (h0 : 0 ≤ k) (hb : k + ys.length ≤ 1152921504606846976) :
    Calls Tryd.prog 48 #[v, .int .i64 k] w fun e w2 => e = .returned (.int .i64 (k + ys.length)) ∧ Ext w w2 := by
  obtain ⟨A, cap, rfl, hm⟩ := h.form
  go_enter Tryd.func48, Tryd.ntmps48
  go_wp2
  go_loopw [1, 5] (fun l i wr => ∃ j : Nat, j ≤ ys.length ∧ i = .int .i64 j ∧ l = .int .i64 (k + j) ∧ Ext w wr) (fun _ i _ => ys.length - (intOf i).toNat)
  case atStart => exact ⟨0, Nat.zero_le _, rfl, by simp, Ext.refl _⟩
  case round =>
    obtain ⟨j, hj, rfl, rfl, hx⟩ := hrel
    by_cases hlt : j < ys.length
    · obtain ⟨b, off, rfl, hb1, hc⟩ := h.str hlt
      have hv := hi j hlt
      rw [List.getElem?_eq_getElem hlt] at hv
      injection hv with hv
      rw [hv] at hc
      clear hv
      have z0 : ∀ z : ExtOf wr, z.1.cell? ⟨b, off + j, none⟩ = some (.string (mkT (k + j))) := fun z => (hx.trans z.2).cell hc
      clear hc
      go_wp2_with fail
      refine wp_region_ext (by kernel_rfl) (by kernel_rfl) ?_
      repeat (go_big_quiet_step (((go_at_call 96; exact quiet_ext ((markText_t _ _ (by omega) (by omega)).mono fun e w2 h => ⟨h.1, h.2.2⟩)))))
      refine wpQuiet_nil ?_
      rintro w5 ⟨⟨_, x5⟩, rfl⟩
      go_wp2
      go_roundw
      case rel => exact ⟨j + 1, by omega, by go_num, by go_num, hx.trans x5⟩
      case measure => simp [intOf]; omega
    · go_wp2
      go_ret
      exact ⟨ret_int (by omega), hx⟩
def recSum (xs : List Record) : Nat := (xs.map fun r => 3 + r.fields.length).sum
theorem recSum_step (xs : List Record) (i : Nat) (h : i < xs.length) : recSum (xs.take (i + 1)) = recSum (xs.take i) + (3 + xs[i].fields.length) := by
  rw [List.take_succ_eq_append_getElem h]; unfold recSum; rw [List.map_append, List.sum_append]; simp
theorem recSum_le (xs : List Record) (i : Nat) : recSum (xs.take i) ≤ recSum xs := by
  have h := List.take_append_drop i xs
  have : recSum xs = recSum (xs.take i) + recSum (xs.drop i) := by
    unfold recSum; rw [← List.sum_append, ← List.map_append, h]
  omega
theorem recSum_ms (xs : List Record) : recSum xs ≤ 3 * (xs.length + sumBy msRec xs) := by
  unfold recSum sumBy
  induction xs with
  | nil => simp
  | cons x xs ih =>
    simp only [List.map_cons, List.sum_cons, List.length_cons] at ih ⊢
    have : x.fields.length ≤ msRec x := by unfold msRec; omega
    omega

theorem OwnSl.rec_at {w : World} {v : Value} {xs : List Record} {F : List Nat} (h : OwnSl recordO w v xs F) (hN : F.Nodup) {i : Nat} (hi : i < xs.length) : ∃ g off cap m F1, v = .slice (some ⟨g, off, none⟩) xs.length cap ∧ g ∈ F ∧ (∀ o, w.frozen? ⟨g, o, none⟩ = false) ∧
    (w.cell? ⟨g, off + i * 4, none⟩ = some (.int .i64 xs[i].source) ∧ w.cell? ⟨g, off + i * 4 + 1, none⟩ = some (.int .i64 xs[i].key) ∧ w.cell? ⟨g, off + i * 4 + 2, none⟩ = some (.int .i64 xs[i].version) ∧ w.cell? ⟨g, off + i * 4 + 3, none⟩ = some m) ∧
    (∀ u, I64 u → OwnSl recordO (w.setCell ⟨g, off + i * 4, none⟩ (.int .i64 u)) v (xs.set i ⟨u, xs[i].key, xs[i].version, xs[i].fields⟩) F) ∧
    (∀ u, I64 u → OwnSl recordO (w.setCell ⟨g, off + i * 4 + 1, none⟩ (.int .i64 u)) v (xs.set i ⟨xs[i].source, u, xs[i].version, xs[i].fields⟩) F) ∧
    (∀ u, I64 u → OwnSl recordO (w.setCell ⟨g, off + i * 4 + 2, none⟩ (.int .i64 u)) v (xs.set i ⟨xs[i].source, xs[i].key, u, xs[i].fields⟩) F) ∧
    (∀ b ∈ F1, b ∈ F) ∧ F1.Nodup ∧ OwnSl strO w m xs[i].fields F1 ∧
    ∀ w2 zs, (∀ b ∈ F, b ∉ F1 → w2.heap[b]? = w.heap[b]?) → OwnSl strO w2 m zs F1 → OwnSl recordO w2 v (xs.set i ⟨xs[i].source, xs[i].key, xs[i].version, zs⟩) F := by
  obtain ⟨g, off, cap, c, F1, rfl, hg, hsub, hng, hN1, ⟨m, rfl, hI, hm⟩, _, hc, hf, hin, hst⟩ := h.elem hN hi
  have h1 : recordO.n = 4 := rfl
  rw [h1] at hc hst
  have hmk : ∀ o u, OwnSl strO (w.setCell ⟨g, o, none⟩ u) m xs[i].fields F1 := fun o u => hm.keep fun b hb => keep_setCell fun e => hng (by have e2 : b = g := e; exact e2 ▸ hb)
  refine ⟨g, off, cap, m, F1, rfl, hg, hf, ⟨by (have := hc 0 (by omega)); rw [Nat.add_zero] at this; exact this, hc 1 (by omega), hc 2 (by omega), hc 3 (by omega)⟩, fun u hu => ?_, fun u hu => ?_, fun u hu => ?_, hsub, hN1, hm, fun w2 zs hk hz => ?_⟩
  · have := hst 0 (.int .i64 u) ⟨u, xs[i].key, xs[i].version, xs[i].fields⟩ (by omega) ⟨m, rfl, ⟨hu, hI.2⟩, hmk _ _⟩
    simpa using this
  · exact hst 1 (.int .i64 u) ⟨xs[i].source, u, xs[i].version, xs[i].fields⟩ (by omega) ⟨m, rfl, ⟨hI.1, hu, hI.2.2⟩, hmk _ _⟩
  · exact hst 2 (.int .i64 u) ⟨xs[i].source, xs[i].key, u, xs[i].fields⟩ (by omega) ⟨m, rfl, ⟨hI.1, hI.2.1, hu⟩, hmk _ _⟩
  · exact hin w2 ⟨xs[i].source, xs[i].key, xs[i].version, zs⟩ hk ⟨m, rfl, hI, hz⟩

theorem rec_three {W : World} {v : Value} {ys : List Record} {F : List Nat} {j : Nat} {K : Int} (ho : OwnSl recordO W v ys F) (hN : F.Nodup) (hjy : j < ys.length) (hK0 : 0 ≤ K) (hK1 : K ≤ 1152921504606846976) :
    ∃ g off cap m F3, v = .slice (some ⟨g, off, none⟩) ys.length cap ∧ g ∈ F ∧ (∀ o, W.frozen? ⟨g, o, none⟩ = false) ∧
      (W.cell? ⟨g, off + j * 4, none⟩ = some (.int .i64 ys[j].source) ∧ W.cell? ⟨g, off + j * 4 + 1, none⟩ = some (.int .i64 ys[j].key) ∧ W.cell? ⟨g, off + j * 4 + 2, none⟩ = some (.int .i64 ys[j].version) ∧ W.cell? ⟨g, off + j * 4 + 3, none⟩ = some m) ∧
      (∀ b ∈ F3, b ∈ F) ∧ F3.Nodup ∧ OwnSl strO (((W.setCell ⟨g, off + j * 4, none⟩ (.int .i64 K)).setCell ⟨g, off + j * 4 + 1, none⟩ (.int .i64 (K + 1))).setCell ⟨g, off + j * 4 + 2, none⟩ (.int .i64 (K + 1 + 1))) m ys[j].fields F3 ∧
      ∀ w2 zs, (∀ b ∈ F, b ∉ F3 → w2.heap[b]? = (((W.setCell ⟨g, off + j * 4, none⟩ (.int .i64 K)).setCell ⟨g, off + j * 4 + 1, none⟩ (.int .i64 (K + 1))).setCell ⟨g, off + j * 4 + 2, none⟩ (.int .i64 (K + 1 + 1))).heap[b]?) → OwnSl strO w2 m zs F3 → OwnSl recordO w2 v (ys.set j ⟨K, K + 1, K + 1 + 1, zs⟩) F := by
  obtain ⟨g, off, cap2, m, F1, rfl, hg, hfr, hcs, s0, _, _, _, _, _, _⟩ := ho.rec_at hN hjy
  have c3 := hcs.2.2.2
  have o1 := s0 K (by unfold I64; omega)
  have hy1 : j < (ys.set j ⟨K, ys[j].key, ys[j].version, ys[j].fields⟩).length := by rw [List.length_set]; exact hjy
  obtain ⟨g1, off1, cap1, m1, _, e, _, _, ⟨_, _, _, _⟩, _, s1, _, _, _, _, _⟩ := o1.rec_at hN hy1
  injection e with e1 e2 e3
  injection e1 with e1
  injection e1 with e1 e4 _
  subst e1; subst e4
  clear e2 e3
  have o2 := s1 (K + 1) (by unfold I64; omega)
  simp only [List.getElem_set_self, List.set_set] at o2
  have hy2 : j < (ys.set j ⟨K, K + 1, ys[j].version, ys[j].fields⟩).length := by rw [List.length_set]; exact hjy
  obtain ⟨g1, off1, cap1, m2, _, e, _, _, ⟨_, _, _, _⟩, _, _, s2, _, _, _, _⟩ := o2.rec_at hN hy2
  injection e with e1 e2 e3
  injection e1 with e1
  injection e1 with e1 e4 _
  subst e1; subst e4
  clear e2 e3
  have o3 := s2 (K + 1 + 1) (by unfold I64; omega)
  simp only [List.getElem_set_self, List.set_set] at o3
  have hy3 : j < (ys.set j ⟨K, K + 1, K + 1 + 1, ys[j].fields⟩).length := by rw [List.length_set]; exact hjy
  obtain ⟨g1, off1, cap1, m3, F3, e, _, _, ⟨_, _, _, c3'⟩, _, _, _, hsub, hN3, hm3, hin⟩ := o3.rec_at hN hy3
  injection e with e1 e2 e3
  injection e1 with e1
  injection e1 with e1 e4 _
  subst e1; subst e4
  clear e2 e3
  simp only [List.getElem_set_self, List.set_set] at hm3 hin
  have q2 := World.cell?_setCell_other (w := (W.setCell ⟨g, off + j * 4, none⟩ (.int .i64 K)).setCell ⟨g, off + j * 4 + 1, none⟩ (.int .i64 (K + 1))) (v := .int .i64 (K + 1 + 1)) (a := ⟨g, off + j * 4 + 2, none⟩) (b := ⟨g, off + j * 4 + 3, none⟩) (fun e => by injection e with _ e _; omega)
  have q1 := World.cell?_setCell_other (w := W.setCell ⟨g, off + j * 4, none⟩ (.int .i64 K)) (v := .int .i64 (K + 1)) (a := ⟨g, off + j * 4 + 1, none⟩) (b := ⟨g, off + j * 4 + 3, none⟩) (fun e => by injection e with _ e _; omega)
  have q0 := World.cell?_setCell_other (w := W) (v := .int .i64 K) (a := ⟨g, off + j * 4, none⟩) (b := ⟨g, off + j * 4 + 3, none⟩) (fun e => by injection e with _ e _; omega)
  have hmm : m3 = m := Option.some.inj (c3'.symm.trans (q2.trans (q1.trans (q0.trans c3))))
  subst m3
  exact ⟨g, off, cap2, m, F3, rfl, hg, hfr, hcs, hsub, hN3, hm3, hin⟩

set_option maxHeartbeats 400000 in
set_option maxRecDepth 20000 in
theorem markRecordS_c (v : Value) (xs : List Record) (F : List Nat) (k : Int) (w : World) (h : OwnSl recordO w v xs F) (hN : F.Nodup) (h0 : 0 ≤ k) (hb : k + (recSum xs : Nat) ≤ 1152921504606846976) :
    Calls Tryd.prog 45 #[v, .int .i64 k] w fun e w2 => ∃ K, e = .returned (.int .i64 K) ∧ (0 ≤ K ∧ K ≤ k + (recSum xs : Nat)) ∧ Chg F w w2 := by
  obtain ⟨A, cap, rfl, hm⟩ := h.form
  go_enter Tryd.func45, Tryd.ntmps45
  go_wp2
  go_loopw [1, 5] (fun l i wr => ∃ (j : Nat) (K : Int) (ys : List Record), j ≤ xs.length ∧ i = .int .i64 j ∧ l = .int .i64 K ∧ 0 ≤ K ∧ K + (recSum (ys.drop j) : Nat) ≤ k + (recSum xs : Nat) ∧ OwnSl recordO wr (.slice A xs.length cap) ys F ∧ Hid (ys.length = xs.length) ∧ Chg F w wr) (fun _ i _ => xs.length - (intOf i).toNat)
  case atStart => exact ⟨0, k, xs, Nat.zero_le _, rfl, rfl, h0, Int.le_refl _, h, hid rfl, .refl _ _⟩
  case round =>
    obtain ⟨j, K, ys, hj, rfl, rfl, hK0, hK1, ho, hy, hc⟩ := hrel
    by_cases hlt : j < xs.length
    · have hjy : j < ys.length := by rw [hy.out]; exact hlt
      have hd : recSum (ys.drop j) = 3 + ys[j].fields.length + recSum (ys.drop (j + 1)) := by
        unfold recSum; rw [List.drop_eq_getElem_cons hjy, List.map_cons, List.sum_cons]
      rw [hd] at hK1
      clear hd
      obtain ⟨g, off, cap2, m, F3, e, hg, hfr, ⟨c0, c1, c2, c3⟩, hsub, hN3, hm3, hin⟩ := rec_three (K := K) ho hN hjy hK0 (by omega)
      injection e with e1 e2 e3
      subst e1
      clear e2 e3
      obtain ⟨W3, hW3⟩ : ∃ W3, W3 = ((wr.setCell ⟨g, off + j * 4, none⟩ (.int .i64 K)).setCell ⟨g, off + j * 4 + 1, none⟩ (.int .i64 (K + 1))).setCell ⟨g, off + j * 4 + 2, none⟩ (.int .i64 (K + 1 + 1)) := ⟨_, rfl⟩
      rw [← hW3] at hm3 hin
      have hc3 : Chg F w W3 := by rw [hW3]; exact ((hc.setCell hg _).setCell hg _).setCell hg _
      have hlt3 : ∀ b ∈ F, b < W3.heap.size := fun b hb => by rw [hW3]; simp only [World.size_setCell]; exact ho.lt b hb
      obtain ⟨A3, cap3, e3, _⟩ := hm3.form
      subst e3
      have HIN := hid hin
      have HW := hid hW3
      have HHY := hid hy
      clear hin hW3
      go_wp2_with fail
      rw [← HW.out]
      refine (markStringS_t _ ys[j].fields F3 _ _ hm3 hN3 (by omega) (by omega)).mono ?_
      rintro e w2 ⟨zs, rfl, hz, hzl, _, hzc⟩
      have o4 := HIN.out w2 zs (fun b hb hn => hzc.block b (hlt3 b hb) hn) hz
      have hc4 := hc3.trans (hzc.mono hsub)
      have HL : recSum ((ys.set j ⟨K, K + 1, K + 1 + 1, zs⟩).drop (j + 1)) = recSum (ys.drop (j + 1)) := by rw [List.drop_set_of_lt (by omega)]
      have HL2 := hid HL
      clear HL
      go_wp2
      go_roundw
      case rel => exact ⟨j + 1, _, _, by omega, by go_num, rfl, by omega, by rw [HL2.out]; omega, o4, hid (by rw [List.length_set]; exact hy.out), hc4⟩
      case measure => simp [intOf]; omega
    · go_wp2
      go_ret
      exact ⟨K, rfl, ⟨hK0, by omega⟩, hc⟩
end Go.Proofs.YtgbcbmlikmjjkaaDoor
