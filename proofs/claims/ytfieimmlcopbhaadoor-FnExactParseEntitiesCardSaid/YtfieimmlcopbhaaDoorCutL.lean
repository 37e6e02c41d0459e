/-
  PLAIN LAWS, OF NO PROGRAM: a string cut at a byte.
-/
import Derived.Test.YtfieimmlcopbhaaDoorNum
import Derived.Lib.SplitLaws
import Derived.Lib.CutLaws
import Derived.Lib.IndexBytes
namespace Go.Proofs.YtfieimmlcopbhaaDoor
open Go.RowKit

/-- the pieces of l between the bytes c -/
def cutL (c : UInt8) : List UInt8 → List (List UInt8)
  | [] => [[]]
  | b :: r => if b = c then [] :: cutL c r else match cutL c r with
    | [] => [[b]]
    | p :: ps => (b :: p) :: ps
theorem cutL_cons (c : UInt8) (l : List UInt8) : ∃ p ps, cutL c l = p :: ps := by
  cases l with
  | nil => exact ⟨_, _, rfl⟩
  | cons b r =>
    unfold cutL
    split
    · exact ⟨_, _, rfl⟩
    · split <;> exact ⟨_, _, rfl⟩
theorem cutL_hit {c : UInt8} : ∀ {a : List UInt8} (_ : c ∉ a) (r : List UInt8), cutL c (a ++ c :: r) = a :: cutL c r
  | [], _, r => by rw [List.nil_append, cutL, if_pos rfl]
  | b :: a, h, r => by
    have hb : ¬ b = c := fun e => h (e ▸ List.mem_cons_self ..)
    rw [List.cons_append, cutL, if_neg hb, cutL_hit (fun e => h (List.mem_cons_of_mem _ e)) r]
theorem cutL_all {c : UInt8} : ∀ {a : List UInt8} (_ : c ∉ a), cutL c a = [a]
  | [], _ => rfl
  | b :: a, h => by
    have hb : ¬ b = c := fun e => h (e ▸ List.mem_cons_self ..)
    rw [cutL, if_neg hb, cutL_all (fun e => h (List.mem_cons_of_mem _ e))]
theorem cut_of (c : UInt8) : ∀ l : List UInt8, (∃ a r, c ∉ a ∧ l = a ++ c :: r) ∨ c ∉ l
  | [] => .inr (by simp)
  | b :: l => by
    by_cases hb : b = c
    · exact .inl ⟨[], l, by simp, by rw [hb]; rfl⟩
    · rcases cut_of c l with ⟨a, r, ha, rfl⟩ | h
      · exact .inl ⟨b :: a, r, by simp [ha]; exact fun e => hb e.symm, rfl⟩
      · exact .inr (by simp [h]; exact fun e => hb e.symm)
theorem cutL_len (c : UInt8) (l : List UInt8) : (cutL c l).length ≤ l.length + 1 := by
  induction l with
  | nil => simp [cutL]
  | cons b r ih =>
    rw [cutL]
    split
    · simp; omega
    · obtain ⟨p, ps, e⟩ := cutL_cons c r
      rw [e] at ih ⊢
      simp at ih ⊢; omega
/-- every piece is no longer than the whole -/
theorem cutL_piece (c : UInt8) : ∀ (l p : List UInt8), p ∈ cutL c l → p.length ≤ l.length
  | [], p, h => by simp [cutL] at h; simp [h]
  | b :: r, p, h => by
    rw [cutL] at h
    split at h
    · rcases List.mem_cons.1 h with rfl | h
      · simp
      · have := cutL_piece c r p h; simp; omega
    · obtain ⟨q, qs, e⟩ := cutL_cons c r
      rw [e] at h
      rcases List.mem_cons.1 h with rfl | h
      · have := cutL_piece c r q (by rw [e]; exact List.mem_cons_self ..); simp; omega
      · have := cutL_piece c r p (by rw [e]; exact List.mem_cons_of_mem _ h); simp; omega
theorem cutL_no (c : UInt8) : ∀ (l p : List UInt8), p ∈ cutL c l → c ∉ p
  | [], p, h => by simp [cutL] at h; simp [h]
  | b :: r, p, h => by
    rw [cutL] at h
    split at h
    · rcases List.mem_cons.1 h with rfl | h
      · simp
      · exact cutL_no c r p h
    · rename_i hb
      obtain ⟨q, qs, e⟩ := cutL_cons c r
      rw [e] at h
      rcases List.mem_cons.1 h with rfl | h
      · have := cutL_no c r q (by rw [e]; exact List.mem_cons_self ..)
        simp [this]; exact fun e => hb e.symm
      · exact cutL_no c r p (by rw [e]; exact List.mem_cons_of_mem _ h)

theorem indexByte_at {c : UInt8} : ∀ {a : List UInt8} (_ : c ∉ a) (r : List UInt8), Go.Lib.indexByte (a ++ c :: r) c = a.length
  | [], _, r => by simp [Go.Lib.indexByte]
  | b :: a, h, r => by
    have hb : ¬ b = c := fun e => h (e ▸ List.mem_cons_self ..)
    have ih := indexByte_at (fun e => h (List.mem_cons_of_mem _ e)) r
    rw [List.cons_append, Go.Lib.indexByte, ih]
    simp [hb]
theorem indexByte_none {c : UInt8} : ∀ {a : List UInt8} (_ : c ∉ a), Go.Lib.indexByte a c = -1
  | [], _ => rfl
  | b :: a, h => by
    have hb : ¬ b = c := fun e => h (e ▸ List.mem_cons_self ..)
    have ih := indexByte_none (fun e => h (List.mem_cons_of_mem _ e))
    rw [Go.Lib.indexByte, ih]
    simp [hb]
/-- strings.Cut at one byte -/
theorem libcut_hit {c : UInt8} {a r : List UInt8} (h : c ∉ a) : Go.Lib.cut (a ++ c :: r) [c] = (a, r, true) := by
  unfold Go.Lib.cut
  rw [Go.Lib.index_one, indexByte_at h, if_pos (by omega)]
  simp
theorem libcut_none {c : UInt8} {a : List UInt8} (h : c ∉ a) : Go.Lib.cut a [c] = (a, [], false) := by
  unfold Go.Lib.cut
  rw [Go.Lib.index_one, indexByte_none h, if_neg (by omega)]
/-- strings.Split at one byte -/
theorem splitK_one (c : UInt8) : ∀ (n : Nat) (l : List UInt8), l.length ≤ n → Go.Lib.splitK [c] 0 (l.count c) l = cutL c l := by
  intro n
  induction n with
  | zero =>
    intro l hl
    have : l = [] := List.length_eq_zero_iff.1 (by omega)
    subst this; rfl
  | succ n ih =>
    intro l hl
    rcases cut_of c l with ⟨a, r, ha, rfl⟩ | h
    · have hc : (a ++ c :: r).count c = r.count c + 1 := by
        rw [List.count_append, List.count_eq_zero.2 ha, List.count_cons_self]; omega
      rw [hc, Go.Lib.splitK, Go.Lib.index_one, indexByte_at ha, if_neg (by simp), cutL_hit ha]
      have e1 : (a ++ c :: r).take ((a.length : Int).toNat + 0) = a := by simp
      have e2 : (a ++ c :: r).drop ((a.length : Int).toNat + [c].length) = r := by
        rw [show (a.length : Int).toNat + [c].length = a.length + 1 by simp, ← List.drop_drop, List.drop_left]
        rfl
      rw [e1, e2, ih r (by simp at hl; omega)]
    · rw [List.count_eq_zero.2 h, cutL_all h]; rfl
theorem splitB_one (c : UInt8) (s : ByteArray) : Go.Lib.splitB ⟨#[c]⟩ 0 (Go.Lib.countB s ⟨#[c]⟩) s = (cutL c s.data.toList).map fun l => ⟨l.toArray⟩ := by
  have h1 := Go.Lib.splitB_data ⟨#[c]⟩ 0 (Go.Lib.countB s ⟨#[c]⟩) s
  have e : Go.Lib.countB s ⟨#[c]⟩ = s.data.toList.count c := Go.Lib.count_one c s.data.toList
  have h2 : (Go.Lib.splitB ⟨#[c]⟩ 0 (Go.Lib.countB s ⟨#[c]⟩) s).map (·.data.toList) = cutL c s.data.toList := by
    rw [h1, e]; exact splitK_one c _ _ (Nat.le_refl _)
  rw [← h2, List.map_map]
  conv => lhs; rw [← List.map_id (Go.Lib.splitB ⟨#[c]⟩ 0 (Go.Lib.countB s ⟨#[c]⟩) s)]
  refine List.map_congr_left fun x _ => ?_
  exact (bytes_mk x).symm
end Go.Proofs.YtfieimmlcopbhaaDoor
