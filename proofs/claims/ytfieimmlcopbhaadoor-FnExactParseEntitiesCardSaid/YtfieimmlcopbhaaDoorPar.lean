/-
  PLAIN LAWS, OF NO PROGRAM: what a parser answers; the pieces of a string.
-/
import Derived.Test.YtfieimmlcopbhaaDoorPI
import Derived.Test.YtfieimmlcopbhaaDoorCutL
namespace Go.Proofs.YtfieimmlcopbhaaDoor
open Go.RowKit

/-- what a parser answers: the data whose text is s, or the zero value -/
noncomputable def ans {α : Type} (ok : α → Bool) (fmt : α → ByteArray) (z : α) (s : ByteArray) : α × Bool :=
  open Classical in if h : ∃ x, ok x = true ∧ fmt x = s then (h.choose, true) else (z, false)
theorem ans_yes {α : Type} {ok : α → Bool} {fmt : α → ByteArray} {z : α} {s : ByteArray} {c : α} (hA : ∀ x, ok x = true → fmt x = s → x = c) (hc : ok c = true) (h : fmt c = s) : ans ok fmt z s = (c, true) := by
  have h0 : ∃ x, ok x = true ∧ fmt x = s := ⟨c, hc, h⟩
  unfold ans
  rw [dif_pos h0, hA _ h0.choose_spec.1 h0.choose_spec.2]
theorem ans_no {α : Type} {ok : α → Bool} {fmt : α → ByteArray} {z : α} {s : ByteArray} (h : ∀ x, ok x = true → fmt x = s → False) : ans ok fmt z s = (z, false) := by
  unfold ans
  rw [dif_neg (fun ⟨x, h1, h2⟩ => h x h1 h2)]
/-- a parser's last test: the text of what it read is not s -/
theorem ans_end {α : Type} {ok : α → Bool} {fmt : α → ByteArray} {z : α} {s : ByteArray} {c : α} (hA : ∀ x, ok x = true → fmt x = s → x = c) (h : ¬ fmt c = s) : ans ok fmt z s = (z, false) :=
  ans_no fun x h1 h2 => h (hA x h1 h2 ▸ h2)

/-- a list of bytes as a string -/
def bs (l : List UInt8) : ByteArray := ⟨l.toArray⟩
theorem bs_data (l : List UInt8) : (bs l).data.toList = l := by unfold bs; simp
theorem bs_size (l : List UInt8) : (bs l).size = l.length := by unfold bs; simp [ByteArray.size]
theorem bs_mk (s : ByteArray) : bs s.data.toList = s := bytes_mk s
theorem bs_inj {a b : List UInt8} (h : bs a = bs b) : a = b := by rw [← bs_data a, ← bs_data b, h]
theorem bs_eq {s : ByteArray} {l : List UInt8} (h : s.data.toList = l) : s = bs l := by rw [← h, bs_mk]
/-- the pieces of a string -/
def pcs (c : UInt8) (s : ByteArray) : List ByteArray := (cutL c s.data.toList).map bs
theorem pcs_len (c : UInt8) (s : ByteArray) : (pcs c s).length ≤ s.size + 1 := by
  unfold pcs; rw [List.length_map]
  have := cutL_len c s.data.toList
  have e : s.data.toList.length = s.size := Array.length_toList
  omega
theorem pcs_pos (c : UInt8) (s : ByteArray) : 0 < (pcs c s).length := by
  obtain ⟨p, ps, e⟩ := cutL_cons c s.data.toList
  unfold pcs; rw [e]; simp
theorem pcs_size {c : UInt8} {s p : ByteArray} (h : p ∈ pcs c s) : p.size ≤ s.size := by
  obtain ⟨l, hl, rfl⟩ := List.mem_map.1 h
  have := cutL_piece c _ l hl
  rw [bs_size]
  have e : s.data.toList.length = s.size := Array.length_toList
  omega
theorem pcs_bs (c : UInt8) (l : List UInt8) : pcs c (bs l) = (cutL c l).map bs := by unfold pcs; rw [bs_data]
theorem itoaS_bs (n : Int) : itoaS n = bs (Go.Lib.itoa n) := rfl
theorem pI_itoa {n : Int} (h : -999999999 ≤ n ∧ n ≤ 999999999) : pI (bs (Go.Lib.itoa n)) = (n, true) := pI_hit ⟨h, rfl⟩
/-- the lists' laws of a text that is made of strings -/
theorem app_data (a b : ByteArray) : (a ++ b).data.toList = a.data.toList ++ b.data.toList := by simp
theorem cutL_join (c : UInt8) : ∀ (x : List UInt8) (xs : List (List UInt8)), c ∉ x → (∀ y ∈ xs, c ∉ y) → cutL c (x ++ (xs.map fun y => c :: y).flatten) = x :: xs
  | x, [], hx, _ => by simpa using cutL_all hx
  | x, y :: ys, hx, hy => by
    rw [List.map_cons, List.flatten_cons, List.cons_append, cutL_hit hx, cutL_join c y ys (hy y (List.mem_cons_self ..)) (fun z hz => hy z (List.mem_cons_of_mem _ hz))]
end Go.Proofs.YtfieimmlcopbhaaDoor
