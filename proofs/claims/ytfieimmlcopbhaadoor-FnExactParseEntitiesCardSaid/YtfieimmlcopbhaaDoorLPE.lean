/-
  THE LAW'S WALK: FnExactParseEntities.
-/
import Derived.Test.YtfieimmlcopbhaaDoorPEs
import Derived.Test.YtfieimmlcopbhaaDoorMarkE
namespace Go.Proofs.YtfieimmlcopbhaaDoor
open Go.RowKit

theorem ans_ok {α : Type} (ok : α → Bool) (fmt : α → ByteArray) (z : α) (s : ByteArray) : ok (ans ok fmt z s).1 = true ∨ (ans ok fmt z s).1 = z := by
  unfold ans
  split
  · rename_i h; exact .inl h.choose_spec.1
  · exact .inr rfl
theorem ents_small {xs : List Entity} (h : areEnts xs = true) : msEnts xs ≤ 1048576 := by
  obtain ⟨h1, h2⟩ := ents_bd h
  have h3 : ∀ l : List Entity, (∀ e ∈ l, e.members.length ≤ 8) → msEnts l ≤ 9 * l.length := fun l => by
    induction l with
    | nil => intro _; simp [msEnts, sumMem]
    | cons p l ih =>
      intro h
      have h4 := ih fun e he => h e (List.mem_cons_of_mem _ he)
      have h5 := h p (List.mem_cons_self ..)
      unfold msEnts sumMem at h4 ⊢
      simp only [List.map_cons, List.sum_cons, List.length_cons] at h4 ⊢
      omega
  have := h3 xs fun e he => (h2 e he).2.2.1
  omega
theorem pE_ms (s : ByteArray) : msEnts (pE s).1 ≤ 1048576 := by
  rcases ans_ok areEnts fmtEnts [] s with h | h
  · exact ents_small h
  · have e : (pE s).1 = [] := h
    rw [e]; simp [msEnts, sumMem]

set_option maxHeartbeats 400000 in
set_option maxRecDepth 20000 in
theorem law_ParseEntities (s : ByteArray) (w : World) (_hs : s.size ≤ maxLen) (N : Env w) :
    Calls Tryd.prog 6 #[.string s] w fun e w2 => e = .returned (.bool true) ∧ Ext w w2 := by
  by_cases hb : 1048576 < s.size
  · go_enter Tryd.func6, Tryd.ntmps6
    go_wp2
    go_ret
    exact ⟨rfl, Ext.refl _⟩
  · have hb2 : s.size ≤ 1048576 := by omega
    have hms := pE_ms s
    go_enter Tryd.func6, Tryd.ntmps6
    go_wp2_with fail
    refine (spec_ParseEntities s _ hb2).mono ?_
    rintro e w1 ⟨v1, F1, rfl, o1, n1, x1⟩
    obtain ⟨r, hr⟩ : ∃ r, r = pE s := ⟨_, rfl⟩
    rw [← hr] at o1 hms ⊢
    have HR := hid hr
    clear hr n1
    obtain ⟨xs, k⟩ := r
    have hk : (k != k) = false := by simp
    dsimp only at o1 hms ⊢
    have hcb : (1 : Int) + ((lstMk entityMk).cnt xs : Nat) ≤ 1152921504606846976 := by have := cntEntityS_le xs; omega
    have HCB := hid hcb
    clear hcb hms
    obtain ⟨A1, c1, rfl, _⟩ := o1.form
    go_wp2_with fail
    refine (impl_ParseEntities s _ hb2 (N.mono x1)).mono ?_
    rintro e w2 ⟨v2, F2, rfl, o2, n2, x2⟩
    rw [← HR.out] at o2 ⊢
    dsimp only at o2 ⊢
    obtain ⟨A2, c2, rfl, _⟩ := o2.form
    have d12 : Dis F1 F2 := Dis.new o1.lt n2
    have hF2 := fun b (hb : b ∈ F2) => Nat.le_trans x1.size (n2.2 b hb)
    have N2 := n2.1
    have hW := x1.trans x2
    replace o1 := o1.ext x2
    clear x1 x2 n2
    go_wp2_with fail
    refine (eqEntityS_c _ _ xs xs _ o2.sl o1.sl).mono ?_
    rintro e w3 ⟨rfl, x3⟩
    rw [eqB_self]
    replace hW := hW.trans x3
    replace o1 := o1.ext x3
    replace o2 := o2.ext x3
    clear x3
    go_wp2_with fail
    refine (markEntityS_c _ xs F2 1 _ o2 N2 (by omega) HCB.out).mono ?_
    rintro e w4 ⟨ys, rfl, o4, hmk, hc⟩
    replace o1 := hc.keepSl d12 o1
    replace hW := hc.ext hF2 hW
    clear hc d12 N2 hF2 o2
    obtain ⟨cn, hcn⟩ : ∃ n, n = (lstMk entityMk).cnt xs := ⟨_, rfl⟩
    have HCN := hid hcn
    rw [← hcn]
    clear hcn
    go_wp2_with fail
    refine (heldEntityS_c _ xs ys 1 _ o4.sl hmk (by omega) HCB.out).mono ?_
    rintro e w5 ⟨rfl, rfl⟩
    rw [← HCN.out]
    have hnn : 0 ≤ (1 : Int) + (cn : Int) := by omega
    go_wp2_with fail
    refine (impl_ParseEntities s _ hb2 (N.mono hW)).mono ?_
    rintro e w6 ⟨v6, F6, rfl, o6, n6, x6⟩
    rw [← HR.out] at o6 ⊢
    dsimp only at o6 ⊢
    obtain ⟨A6, c6, rfl, _⟩ := o6.form
    replace hW := hW.trans x6
    replace o1 := o1.ext x6
    replace o4 := o4.ext x6
    clear x6 n6
    go_wp2_with fail
    refine (eqEntityS_c _ _ xs xs _ o6.sl o1.sl).mono ?_
    rintro e w7 ⟨rfl, x7⟩
    rw [eqB_self]
    replace hW := hW.trans x7
    replace o4 := o4.ext x7
    clear x7 o1 o6
    go_wp2_with fail
    refine (heldEntityS_c _ xs ys 1 _ o4.sl hmk (by omega) HCB.out).mono ?_
    rintro e w8 ⟨rfl, rfl⟩
    rw [← HCN.out]
    go_wp2
    go_ret
    exact ⟨rfl, hW⟩
end Go.Proofs.YtfieimmlcopbhaaDoor
