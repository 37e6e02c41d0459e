/-
  WALKS: the laws' markText, markStringS, heldStringS, markRecordS.
-/
import Derived.Test.YtblggajfdhjmjaaChg
import Derived.Test.YtblggajfdhjmjaaStrs
import Derived.Test.YtblggajfdhjmjaaRecS
import Derived.Laws.IdiomStrings
import Derived.Laws.Concat
namespace Go.Proofs.Ytblggajfdhjmjaa
open Go.RowKit

/-- the digits of a number, ahead of a text -/
def mtL : Nat → Nat → ByteArray → ByteArray
  | 0, _, s => s
  | f + 1, j, s => if j = 0 then s else mtL f (j / 10) (⟨#[UInt8.ofNat (48 + (j : Int) % 10).toNat]⟩ ++ s)
def mkT (k : Int) : ByteArray := if k ≤ 0 then ⟨#[109, 48]⟩ else ⟨#[109]⟩ ++ mtL k.toNat k.toNat ⟨#[]⟩
theorem mtL_zero (f : Nat) (s : ByteArray) : mtL f 0 s = s := by cases f <;> rfl
theorem mtL_step {f j : Nat} {s : ByteArray} (hj : 0 < j) (hf : j ≤ f) : ∃ f2, j / 10 ≤ f2 ∧ mtL f j s = mtL f2 (j / 10) (⟨#[UInt8.ofNat (48 + (j : Int) % 10).toNat]⟩ ++ s) := by
  cases f with
  | zero => omega
  | succ f =>
    refine ⟨f, by omega, ?_⟩
    rw [mtL, if_neg (by omega)]
theorem mkT_pos {k : Int} (h : ¬ k ≤ 0) : mkT k = ⟨#[109]⟩ ++ mtL k.toNat k.toNat ⟨#[]⟩ := by unfold mkT; rw [if_neg h]
theorem mkT_no {k : Int} (h : k ≤ 0) : mkT k = ⟨#[109, 48]⟩ := by unfold mkT; rw [if_pos h]

theorem OwnSl.str_store {w : World} {v : Value} {xs : List ByteArray} {F : List Nat} (h : OwnSl strO w v xs F) (hN : F.Nodup) {i : Nat} (hi : i < xs.length) : ∃ g off cap, v = .slice (some ⟨g, off, none⟩) xs.length cap ∧ g ∈ F ∧
    w.cell? ⟨g, off + i, none⟩ = some (.string xs[i]) ∧ w.frozen? ⟨g, off + i, none⟩ = false ∧ ∀ x : ByteArray, x.size ≤ maxLen → OwnSl strO (w.setCell ⟨g, off + i, none⟩ (.string x)) v (xs.set i x) F := by
  obtain ⟨g, off, cap, c, F1, rfl, hg, _, _, _, ⟨⟨rfl, _⟩, rfl⟩, _, hc, hf, _, hst⟩ := h.elem hN hi
  have h1 : strO.n = 1 := rfl
  refine ⟨g, off, cap, rfl, hg, ?_, hf _, fun x hx => ?_⟩
  · simpa [h1] using hc 0 (by omega)
  · have := hst 0 (.string x) x (by omega) ⟨⟨rfl, hx⟩, rfl⟩
    simpa [h1] using this

/-- the marks of k, of k + 1 and so on -/
def MkS (k : Int) (ys : List ByteArray) : Prop := ∀ i, i < ys.length → ys[i]? = some (mkT (k + i))

def recSum (xs : List Record) : Nat := (xs.map fun r => 3 + r.fields.length).sum
theorem recSum_step (xs : List Record) (i : Nat) (h : i < xs.length) : recSum (xs.take (i + 1)) = recSum (xs.take i) + (3 + xs[i].fields.length) := by
  rw [List.take_succ_eq_append_getElem h]; unfold recSum; rw [List.map_append, List.sum_append]; simp
theorem recSum_le (xs : List Record) (i : Nat) : recSum (xs.take i) ≤ recSum xs := by
  have h := List.take_append_drop i xs
  have : recSum xs = recSum (xs.take i) + recSum (xs.drop i) := by
    unfold recSum; rw [← List.sum_append, ← List.map_append, h]
  omega
theorem recSum_ms (xs : List Record) : recSum xs ≤ 3 * (xs.length + sumBy msRec xs) := by
  unfold recSum sumBy
  induction xs with
  | nil => simp
  | cons x xs ih =>
    simp only [List.map_cons, List.sum_cons, List.length_cons] at ih ⊢
    have : x.fields.length ≤ msRec x := by unfold msRec; omega
    omega

theorem OwnSl.rec_at {w : World} {v : Value} {xs : List Record} {F : List Nat} (h : OwnSl recordO w v xs F) (hN : F.Nodup) {i : Nat} (hi : i < xs.length) : ∃ g off cap m F1, v = .slice (some ⟨g, off, none⟩) xs.length cap ∧ g ∈ F ∧ (∀ o, w.frozen? ⟨g, o, none⟩ = false) ∧
    (w.cell? ⟨g, off + i * 4, none⟩ = some (.int .i64 xs[i].source) ∧ w.cell? ⟨g, off + i * 4 + 1, none⟩ = some (.int .i64 xs[i].key) ∧ w.cell? ⟨g, off + i * 4 + 2, none⟩ = some (.int .i64 xs[i].version) ∧ w.cell? ⟨g, off + i * 4 + 3, none⟩ = some m) ∧
    (∀ u, I64 u → OwnSl recordO (w.setCell ⟨g, off + i * 4, none⟩ (.int .i64 u)) v (xs.set i ⟨u, xs[i].key, xs[i].version, xs[i].fields⟩) F) ∧
    (∀ u, I64 u → OwnSl recordO (w.setCell ⟨g, off + i * 4 + 1, none⟩ (.int .i64 u)) v (xs.set i ⟨xs[i].source, u, xs[i].version, xs[i].fields⟩) F) ∧
    (∀ u, I64 u → OwnSl recordO (w.setCell ⟨g, off + i * 4 + 2, none⟩ (.int .i64 u)) v (xs.set i ⟨xs[i].source, xs[i].key, u, xs[i].fields⟩) F) ∧
    (∀ b ∈ F1, b ∈ F) ∧ F1.Nodup ∧ OwnSl strO w m xs[i].fields F1 ∧
    ∀ w2 zs, (∀ b ∈ F, b ∉ F1 → w2.heap[b]? = w.heap[b]?) → OwnSl strO w2 m zs F1 → OwnSl recordO w2 v (xs.set i ⟨xs[i].source, xs[i].key, xs[i].version, zs⟩) F := by
  obtain ⟨g, off, cap, c, F1, rfl, hg, hsub, hng, hN1, ⟨m, rfl, hI, hm⟩, _, hc, hf, hin, hst⟩ := h.elem hN hi
  have h1 : recordO.n = 4 := rfl
  rw [h1] at hc hst
  have hmk : ∀ o u, OwnSl strO (w.setCell ⟨g, o, none⟩ u) m xs[i].fields F1 := fun o u => hm.keep fun b hb => keep_setCell fun e => hng (by have e2 : b = g := e; exact e2 ▸ hb)
  refine ⟨g, off, cap, m, F1, rfl, hg, hf, ⟨by (have := hc 0 (by omega)); rw [Nat.add_zero] at this; exact this, hc 1 (by omega), hc 2 (by omega), hc 3 (by omega)⟩, fun u hu => ?_, fun u hu => ?_, fun u hu => ?_, hsub, hN1, hm, fun w2 zs hk hz => ?_⟩
  · have := hst 0 (.int .i64 u) ⟨u, xs[i].key, xs[i].version, xs[i].fields⟩ (by omega) ⟨m, rfl, ⟨hu, hI.2⟩, hmk _ _⟩
    simpa using this
  · exact hst 1 (.int .i64 u) ⟨xs[i].source, u, xs[i].version, xs[i].fields⟩ (by omega) ⟨m, rfl, ⟨hI.1, hu, hI.2.2⟩, hmk _ _⟩
  · exact hst 2 (.int .i64 u) ⟨xs[i].source, xs[i].key, u, xs[i].fields⟩ (by omega) ⟨m, rfl, ⟨hI.1, hI.2.1, hu⟩, hmk _ _⟩
  · exact hin w2 ⟨xs[i].source, xs[i].key, xs[i].version, zs⟩ hk ⟨m, rfl, hI, hz⟩

theorem rec_three {W : World} {v : Value} {ys : List Record} {F : List Nat} {j : Nat} {K : Int} (ho : OwnSl recordO W v ys F) (hN : F.Nodup) (hjy : j < ys.length) (hK0 : 0 ≤ K) (hK1 : K ≤ 1152921504606846976) :
    ∃ g off cap m F3, v = .slice (some ⟨g, off, none⟩) ys.length cap ∧ g ∈ F ∧ (∀ o, W.frozen? ⟨g, o, none⟩ = false) ∧
      (W.cell? ⟨g, off + j * 4, none⟩ = some (.int .i64 ys[j].source) ∧ W.cell? ⟨g, off + j * 4 + 1, none⟩ = some (.int .i64 ys[j].key) ∧ W.cell? ⟨g, off + j * 4 + 2, none⟩ = some (.int .i64 ys[j].version) ∧ W.cell? ⟨g, off + j * 4 + 3, none⟩ = some m) ∧
      (∀ b ∈ F3, b ∈ F) ∧ F3.Nodup ∧ OwnSl strO (((W.setCell ⟨g, off + j * 4, none⟩ (.int .i64 K)).setCell ⟨g, off + j * 4 + 1, none⟩ (.int .i64 (K + 1))).setCell ⟨g, off + j * 4 + 2, none⟩ (.int .i64 (K + 1 + 1))) m ys[j].fields F3 ∧
      ∀ w2 zs, (∀ b ∈ F, b ∉ F3 → w2.heap[b]? = (((W.setCell ⟨g, off + j * 4, none⟩ (.int .i64 K)).setCell ⟨g, off + j * 4 + 1, none⟩ (.int .i64 (K + 1))).setCell ⟨g, off + j * 4 + 2, none⟩ (.int .i64 (K + 1 + 1))).heap[b]?) → OwnSl strO w2 m zs F3 → OwnSl recordO w2 v (ys.set j ⟨K, K + 1, K + 1 + 1, zs⟩) F := by
  obtain ⟨g, off, cap2, m, F1, rfl, hg, hfr, hcs, s0, _, _, _, _, _, _⟩ := ho.rec_at hN hjy
  have c3 := hcs.2.2.2
  have o1 := s0 K (by unfold I64; omega)
  have hy1 : j < (ys.set j ⟨K, ys[j].key, ys[j].version, ys[j].fields⟩).length := by rw [List.length_set]; exact hjy
  obtain ⟨g1, off1, cap1, m1, _, e, _, _, ⟨_, _, _, _⟩, _, s1, _, _, _, _, _⟩ := o1.rec_at hN hy1
  injection e with e1 e2 e3
  injection e1 with e1
  injection e1 with e1 e4 _
  subst e1; subst e4
  clear e2 e3
  have o2 := s1 (K + 1) (by unfold I64; omega)
  simp only [List.getElem_set_self, List.set_set] at o2
  have hy2 : j < (ys.set j ⟨K, K + 1, ys[j].version, ys[j].fields⟩).length := by rw [List.length_set]; exact hjy
  obtain ⟨g1, off1, cap1, m2, _, e, _, _, ⟨_, _, _, _⟩, _, _, s2, _, _, _, _⟩ := o2.rec_at hN hy2
  injection e with e1 e2 e3
  injection e1 with e1
  injection e1 with e1 e4 _
  subst e1; subst e4
  clear e2 e3
  have o3 := s2 (K + 1 + 1) (by unfold I64; omega)
  simp only [List.getElem_set_self, List.set_set] at o3
  have hy3 : j < (ys.set j ⟨K, K + 1, K + 1 + 1, ys[j].fields⟩).length := by rw [List.length_set]; exact hjy
  obtain ⟨g1, off1, cap1, m3, F3, e, _, _, ⟨_, _, _, c3'⟩, _, _, _, hsub, hN3, hm3, hin⟩ := o3.rec_at hN hy3
  injection e with e1 e2 e3
  injection e1 with e1
  injection e1 with e1 e4 _
  subst e1; subst e4
  clear e2 e3
  simp only [List.getElem_set_self, List.set_set] at hm3 hin
  have q2 := World.cell?_setCell_other (w := (W.setCell ⟨g, off + j * 4, none⟩ (.int .i64 K)).setCell ⟨g, off + j * 4 + 1, none⟩ (.int .i64 (K + 1))) (v := .int .i64 (K + 1 + 1)) (a := ⟨g, off + j * 4 + 2, none⟩) (b := ⟨g, off + j * 4 + 3, none⟩) (fun e => by injection e with _ e _; omega)
  have q1 := World.cell?_setCell_other (w := W.setCell ⟨g, off + j * 4, none⟩ (.int .i64 K)) (v := .int .i64 (K + 1)) (a := ⟨g, off + j * 4 + 1, none⟩) (b := ⟨g, off + j * 4 + 3, none⟩) (fun e => by injection e with _ e _; omega)
  have q0 := World.cell?_setCell_other (w := W) (v := .int .i64 K) (a := ⟨g, off + j * 4, none⟩) (b := ⟨g, off + j * 4 + 3, none⟩) (fun e => by injection e with _ e _; omega)
  have hmm : m3 = m := Option.some.inj (c3'.symm.trans (q2.trans (q1.trans (q0.trans c3))))
  subst m3
  exact ⟨g, off, cap2, m, F3, rfl, hg, hfr, hcs, hsub, hN3, hm3, hin⟩

end Go.Proofs.Ytblggajfdhjmjaa
