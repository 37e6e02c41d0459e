/-
  WALKS: parseInts.
-/
import Derived.Test.YtfieimmlcopbhaaDoorPIw
namespace Go.Proofs.YtfieimmlcopbhaaDoor
open Go.RowKit

/-- parseInts' answer -/
noncomputable def pIs (ws : List ByteArray) : List Int × Bool := if (ws.all fun s => (pI s).2) = true then (ws.map (fun s => (pI s).1), true) else ([], false)
theorem pIs_yes {ws : List ByteArray} (h : ∀ s ∈ ws, (pI s).2 = true) : pIs ws = (ws.map (fun s => (pI s).1), true) := by unfold pIs; rw [if_pos (List.all_eq_true.2 h)]
theorem pIs_no {ws : List ByteArray} {k : Nat} (hk : k < ws.length) (h : (pI ws[k]).2 = false) : pIs ws = ([], false) := by
  unfold pIs
  rw [if_neg]
  intro h9
  have := List.all_eq_true.1 h9 ws[k] (List.getElem_mem hk)
  rw [h] at this; cases this
theorem OwnSl.nilS {α : Type} (R : RepO α) (w : World) : OwnSl R w (.slice none 0 0) ([] : List α) [] := .inl ⟨rfl, rfl, .none, 0, rfl, Nat.zero_le _⟩

set_option maxHeartbeats 400000 in
set_option maxRecDepth 20000 in
theorem impl_parseInts (v : Value) (ws : List ByteArray) (w : World) (h : Sl strR w v ws) (hb : ws.length ≤ 1048600) (hs : ∀ s ∈ ws, s.size ≤ 1048600) (N : Env w) :
    Calls Tryd.prog 40 #[v] w fun e w2 => ∃ u F, e = .returned (.tuple #[u, .bool (pIs ws).2]) ∧ OwnSl intO w2 u (pIs ws).1 F ∧ NewF w F ∧ Ext w w2 := by
  obtain ⟨A, cap, rfl, hm⟩ := h.form
  go_enter Tryd.func40, Tryd.ntmps40
  go_wp2
  go_loopw [4, 11] (fun l i wr => ∃ k : Nat, k ≤ ws.length ∧ i = .int .i64 k ∧ Bld intO wr w.heap.size 3 l ((ws.take k).map fun s => (pI s).1) [] ∧ Hid (∀ s ∈ ws.take k, (pI s).2 = true) ∧ Ext w wr) (fun _ i _ => ws.length - (intOf i).toNat)
  case atStart => exact ⟨0, Nat.zero_le _, rfl, by simpa using Bld.nil w w.heap.size _, hid (by simp), Ext.refl _⟩
  case round =>
    obtain ⟨k, hk, rfl, hB, hall, hx⟩ := hrel
    by_cases hlt : k < ws.length
    · obtain ⟨b, off, rfl, hsz, hc⟩ := (h.mono hx).str hlt
      have hI := pI_64 ws[k]
      have HS := hid (hs _ (List.getElem_mem hlt))
      clear hsz
      go_wp2_with fail
      refine (impl_ParseInt ws[k] _ HS.out (N.mono hx)).mono ?_
      rintro e w2 ⟨rfl, x2⟩
      cases hp : (pI ws[k]).2 with
      | true =>
        have hB2 := hB.ext x2
        have hbs := (hx.trans x2).size
        have hl : ((ws.take k).map fun s => (pI s).1).length ≤ 1048600 := by rw [List.length_map, List.length_take]; omega
        have hnew := hid (show ∀ s ∈ ws.take (k + 1), (pI s).2 = true from fun s hm => by
          rw [List.take_succ_eq_append_getElem hlt, List.mem_append, List.mem_singleton] at hm
          rcases hm with hm | rfl
          · exact hall.out s hm
          · exact hp)
        clear hp
        go_wp2_with (at_builtin; refine wpList_app1 elemInt (by decide) rfl _ _ rfl hB2 rfl w2.heap.size 1 rfl rfl (one_int _) (own_int _ _ hI) fresh_nil (by omega) (by decide) hbs ?_; intro v9 w9 hB9 hE9)
        go_roundw
        case rel => exact ⟨k + 1, by omega, by go_num, by rw [List.take_succ_eq_append_getElem hlt, List.map_append]; exact hB9, hnew, hE9 _ (Nat.le_refl _) (hx.trans x2)⟩
        case measure => simp [intOf]; omega
      | false =>
        have HP := hid (pIs_no hlt hp)
        clear hp
        go_wp2
        refine bodyPost_ret (v := .tuple #[.slice none 0 0, .bool false]) (by simp [results, Tryd.results40, go_sem]) rfl ?_
        exact ⟨_, [], by rw [HP.out], by rw [HP.out]; exact OwnSl.nilS _ _, NewF.nil _, hx.trans x2⟩
    · rw [List.take_of_length_le (by omega)] at hB
      have HA := hid (show ∀ s ∈ ws, (pI s).2 = true by have := hall.out; rwa [List.take_of_length_le (by omega)] at this)
      have HP := hid (pIs_yes HA.out)
      obtain ⟨F, hF, hN, hb⟩ := hB.done
      obtain ⟨A4, cap4, e4, _⟩ := hF.form
      subst e4
      go_wp2
      refine bodyPost_ret (v := .tuple #[.slice A4 (ws.map fun s => (pI s).1).length cap4, .bool true]) (by simp [results, Tryd.results40, go_sem]) rfl ?_
      exact ⟨_, F, by rw [HP.out], by rw [HP.out]; exact hF, ⟨hN, hb⟩, hx⟩
end Go.Proofs.YtfieimmlcopbhaaDoor
