/-
  PLAIN LAWS, OF NO PROGRAM: the number that a decimal numeral spells.
-/
import Derived.Test.YtfieimmlcopbhaaDoorNum
import Derived.Lib.AtoiAllCases
namespace Go.Proofs.YtfieimmlcopbhaaDoor
open Go.RowKit

def isDg (b : UInt8) : Bool := decide (48 ≤ b.toNat ∧ b.toNat ≤ 57)
theorem isDg_out {b : UInt8} (h : isDg b = true) : 48 ≤ b.toNat ∧ b.toNat ≤ 57 := by unfold isDg at h; exact of_decide_eq_true h
/-- the digits' value, other bytes left out; their number -/
def dvF (a : Nat) (l : List UInt8) : Nat := l.foldl (fun a b => if isDg b = true then a * 10 + (b.toNat - 48) else a) a
def dk (l : List UInt8) : Nat := l.countP isDg
theorem dvF_snoc (a : Nat) (l : List UInt8) (b : UInt8) : dvF a (l ++ [b]) = if isDg b = true then dvF a l * 10 + (b.toNat - 48) else dvF a l := by simp [dvF]
theorem dk_snoc (l : List UInt8) (b : UInt8) : dk (l ++ [b]) = dk l + if isDg b = true then 1 else 0 := by simp [dk, List.countP_append, List.countP_cons]
theorem dvF_cons_y {a : Nat} {l : List UInt8} {b : UInt8} (h : isDg b = true) : dvF a (b :: l) = dvF (a * 10 + (b.toNat - 48)) l := by simp [dvF, h]
theorem dvF_cons_n {a : Nat} {l : List UInt8} {b : UInt8} (h : ¬ isDg b = true) : dvF a (b :: l) = dvF a l := by simp [dvF, h]
theorem dvF_lt : ∀ (l : List UInt8) (a : Nat), dvF a l < (a + 1) * 10 ^ dk l
  | [], a => by simp [dvF, dk]
  | b :: l, a => by
    by_cases hb : isDg b = true
    · have e2 : dk (b :: l) = dk l + 1 := by simp [dk, hb]
      have hd := (isDg_out hb).2
      rw [dvF_cons_y hb, e2, Nat.pow_succ]
      have h1 := dvF_lt l (a * 10 + (b.toNat - 48))
      have h2 : (a * 10 + (b.toNat - 48) + 1) * 10 ^ dk l ≤ (a + 1) * 10 * 10 ^ dk l := Nat.mul_le_mul_right _ (by omega)
      have h3 : (a + 1) * (10 ^ dk l * 10) = (a + 1) * 10 * 10 ^ dk l := by rw [Nat.mul_comm (10 ^ dk l) 10, Nat.mul_assoc]
      rw [h3]
      exact Nat.lt_of_lt_of_le h1 h2
    · have e2 : dk (b :: l) = dk l := by simp [dk, hb]
      rw [dvF_cons_n hb, e2]
      exact dvF_lt l a
theorem dv_lt (l : List UInt8) : dvF 0 l < 10 ^ dk l := by have := dvF_lt l 0; simpa using this

theorem digit_of {d : Nat} (h : d < 10) : isDg (UInt8.ofNat (48 + d)) = true ∧ (UInt8.ofNat (48 + d)).toNat = 48 + d := by
  have e : (UInt8.ofNat (48 + d)).toNat = 48 + d := by rw [UInt8.toNat_ofNat']; omega
  exact ⟨by unfold isDg; rw [decide_eq_true_eq, e]; omega, e⟩
theorem decDigits_dg (u : Nat) : ∀ b ∈ Go.Lib.decDigits u, isDg b = true := by
  induction u using Nat.strongRecOn with
  | _ u ih =>
    intro b hb
    rw [Go.Lib.decDigits] at hb
    by_cases h : u < 10
    · rw [dif_pos h, List.mem_singleton] at hb
      rw [hb]; exact (digit_of h).1
    · rw [dif_neg h] at hb
      rcases List.mem_append.1 hb with hb | hb
      · exact ih (u / 10) (by omega) b hb
      · rw [List.mem_singleton] at hb
        rw [hb]; exact (digit_of (Nat.mod_lt _ (by decide))).1
theorem decDigits_val (u : Nat) : dvF 0 (Go.Lib.decDigits u) = u := by
  induction u using Nat.strongRecOn with
  | _ u ih =>
    rw [Go.Lib.decDigits]
    by_cases h : u < 10
    · rw [dif_pos h, dvF_cons_y (digit_of h).1, (digit_of h).2]
      simp [dvF]
    · have hd := digit_of (Nat.mod_lt u (show 0 < 10 by decide))
      rw [dif_neg h, dvF_snoc, if_pos hd.1, hd.2, ih (u / 10) (by omega)]
      omega
theorem dk_all {l : List UInt8} (h : ∀ b ∈ l, isDg b = true) : dk l = l.length := by unfold dk; exact List.countP_eq_length.2 h
theorem decDigits_head (u : Nat) : ∃ c r, Go.Lib.decDigits u = c :: r ∧ isDg c = true := by
  cases e : Go.Lib.decDigits u with
  | nil => have := decDigits_pos u; rw [e] at this; simp at this
  | cons c r => exact ⟨c, r, rfl, decDigits_dg u c (by rw [e]; exact List.mem_cons_self ..)⟩
theorem parseUint10_dig : ∀ (l : List UInt8) (a k : Nat), (∀ b ∈ l, isDg b = true) → a < 10 ^ k → l.length + k ≤ 18 → Go.Lib.parseUint10 a l = .ok (dvF a l)
  | [], a, k, _, _, _ => rfl
  | b :: l, a, k, hd, ha, hl => by
    have hb := hd b (List.mem_cons_self ..)
    have hb' := isDg_out hb
    simp only [List.length_cons] at hl
    have h18 : 10 ^ (k + 1) ≤ 10 ^ 18 := Nat.pow_le_pow_right (by decide) (by omega)
    have e18 : (10 : Nat) ^ 18 = 1000000000000000000 := by decide
    have ek : 10 ^ (k + 1) = 10 ^ k * 10 := Nat.pow_succ ..
    rw [e18] at h18
    rw [Go.Lib.parseUint10, if_pos hb', if_neg (by omega), if_neg (by omega), dvF_cons_y hb]
    exact parseUint10_dig l _ (k + 1) (fun x hx => hd x (List.mem_cons_of_mem _ hx)) (by omega) (by omega)
theorem parseMag_dig (u : Nat) (h : u < 1000000000) : Go.Lib.parseMag (Go.Lib.decDigits u) = .ok u := by
  have hlen := decDigits_len 8 u (by omega)
  have hpos := decDigits_pos u
  unfold Go.Lib.parseMag
  rw [if_neg (by intro e; rw [e] at hpos; simp at hpos), parseUint10_dig _ 0 0 (decDigits_dg _) (by decide) (by omega), decDigits_val]
theorem atoi_itoa {n : Int} (h : -999999999 ≤ n ∧ n ≤ 999999999) : Go.Lib.atoiAll (Go.Lib.itoa n) = .ok n := by
  by_cases hn : n < 0
  · rw [itoa_neg hn, Go.Lib.atoiAll_minus, parseMag_dig _ (by omega)]
    unfold Go.Lib.signed
    simp only
    rw [if_neg (by omega)]
    congr 1; omega
  · obtain ⟨c, r, e, hc⟩ := decDigits_head n.toNat
    have hc' := isDg_out hc
    rw [itoa_nn hn, e, Go.Lib.atoiAll_plain c r (by omega) (by omega), ← e, parseMag_dig _ (by omega)]
    unfold Go.Lib.signless
    simp only
    rw [if_neg (by omega)]
    congr 1; omega

/-- s spells n, and n has at most nine digits -/
def NumOf (s : ByteArray) (n : Int) : Prop := (-999999999 ≤ n ∧ n ≤ 999999999) ∧ itoaS n = s
theorem itoaS_data (n : Int) : (itoaS n).data.toList = Go.Lib.itoa n := by unfold itoaS; simp
theorem NumOf.data {s : ByteArray} {n : Int} (h : NumOf s n) : s.data.toList = Go.Lib.itoa n := by rw [← h.2, itoaS_data]
theorem NumOf.atoi {s : ByteArray} {n : Int} (h : NumOf s n) : Go.Lib.atoiAll s.data.toList = .ok n := by rw [h.data]; exact atoi_itoa h.1
theorem NumOf.uniq {s : ByteArray} {n m : Int} (h : NumOf s n) (k : NumOf s m) : n = m := by
  have e := h.atoi.symm.trans k.atoi
  injection e
/-- the value with its sign, as the reference reckons it -/
def sgv (l : List UInt8) : Int := if l.head? = some 45 then -(dvF 0 l : Int) else dvF 0 l
theorem NumOf.sgv {s : ByteArray} {n : Int} (h : NumOf s n) : sgv s.data.toList = n ∧ dk s.data.toList ≤ 9 ∧ s.size ≤ 10 := by
  have hb := h.1
  have e := h.data
  have es : s.size = s.data.toList.length := Array.length_toList.symm
  rw [es, e]
  by_cases hn : n < 0
  · have hlen := decDigits_len 8 n.natAbs (by omega)
    have e45 : ¬ isDg 45 = true := by decide
    rw [itoa_neg hn]
    refine ⟨?_, ?_, by rw [List.length_cons]; omega⟩
    · unfold Go.Proofs.YtfieimmlcopbhaaDoor.sgv
      rw [if_pos (by rw [List.head?_cons]), dvF_cons_n e45, decDigits_val]; omega
    · have : dk (45 :: Go.Lib.decDigits n.natAbs) = dk (Go.Lib.decDigits n.natAbs) := by unfold dk; rw [List.countP_cons_of_neg e45]
      rw [this, dk_all (decDigits_dg _)]; omega
  · have hlen := decDigits_len 8 n.toNat (by omega)
    rw [itoa_nn hn]
    refine ⟨?_, by rw [dk_all (decDigits_dg _)]; omega, by omega⟩
    obtain ⟨c, r, e, hc⟩ := decDigits_head n.toNat
    have hc' := isDg_out hc
    unfold Go.Proofs.YtfieimmlcopbhaaDoor.sgv
    rw [if_neg (by rw [e]; intro h9; injection h9 with h9; rw [h9] at hc'; exact absurd hc'.1 (by decide)), decDigits_val]; omega
theorem sgv_num {s : ByteArray} (h : itoaS (sgv s.data.toList) = s) (hk : dk s.data.toList ≤ 9) : NumOf s (sgv s.data.toList) := by
  refine ⟨?_, h⟩
  have h1 := dv_lt s.data.toList
  have h2 : 10 ^ dk s.data.toList ≤ 10 ^ 9 := Nat.pow_le_pow_right (by decide) hk
  have e9 : (10 : Nat) ^ 9 = 1000000000 := by decide
  rw [e9] at h2
  unfold sgv
  split <;> omega

/-- ParseInt's answer -/
noncomputable def pI (s : ByteArray) : Int × Bool := open Classical in if h : ∃ n, NumOf s n then (h.choose, true) else (0, false)
theorem pI_hit {s : ByteArray} {n : Int} (h : NumOf s n) : pI s = (n, true) := by
  have h0 : ∃ n, NumOf s n := ⟨n, h⟩
  unfold pI
  rw [dif_pos h0, h0.choose_spec.uniq h]
theorem pI_no {s : ByteArray} (h : ∀ n, ¬ NumOf s n) : pI s = (0, false) := by
  unfold pI
  rw [dif_neg (fun ⟨n, hn⟩ => h n hn)]
theorem pI_cases (s : ByteArray) : (∃ n, NumOf s n ∧ pI s = (n, true)) ∨ ((∀ n, ¬ NumOf s n) ∧ pI s = (0, false)) := by
  by_cases h : ∃ n, NumOf s n
  · obtain ⟨n, hn⟩ := h; exact .inl ⟨n, hn, pI_hit hn⟩
  · exact .inr ⟨fun n hn => h ⟨n, hn⟩, pI_no fun n hn => h ⟨n, hn⟩⟩
theorem pI_bd (s : ByteArray) : -999999999 ≤ (pI s).1 ∧ (pI s).1 ≤ 999999999 := by
  rcases pI_cases s with ⟨n, h, e⟩ | ⟨_, e⟩
  · rw [e]; exact h.1
  · rw [e]; exact ⟨by decide, by decide⟩
theorem pI_64 (s : ByteArray) : I64 (pI s).1 := by have := pI_bd s; unfold I64; omega
theorem NumOf.of_range {n : Int} (h : -999999999 ≤ n ∧ n ≤ 999999999) : NumOf (itoaS n) n := ⟨h, rfl⟩
theorem itoa_no (c : UInt8) (h : isDg c = false) (h2 : c ≠ 45) (n : Int) : c ∉ Go.Lib.itoa n := by
  intro hm
  by_cases hn : n < 0
  · rw [itoa_neg hn] at hm
    rcases List.mem_cons.1 hm with e | hm
    · exact h2 e
    · rw [decDigits_dg _ c hm] at h; cases h
  · rw [itoa_nn hn] at hm
    rw [decDigits_dg _ c hm] at h; cases h
end Go.Proofs.YtfieimmlcopbhaaDoor
