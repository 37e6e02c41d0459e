/-
  WALKS: the laws' markEntityS, heldEntityS.
-/
import Derived.Test.YtfcbapaojoecgabMgEndCarId0
import Derived.Test.YtfcbapaojoecgabMgEndCarId1

namespace Go.Proofs.Ytfcbapaojoecgab
open Go.RowKit

def entityMk : Mk Entity := ⟨fun e => 1 + e.members.length, fun k x y => y.id = k ∧ (lstMk intMk).is (k + 1) x.members y.members⟩
theorem entityMk_sum (xs : List Entity) : entityMk.sum xs = msEnts xs := by
  unfold Mk.sum entityMk msEnts sumMem
  induction xs with
  | nil => rfl
  | cons x xs ih => simp only [List.map_cons, List.sum_cons, List.length_cons] at ih ⊢; omega
theorem cntEntityS_le (xs : List Entity) : (lstMk entityMk).cnt xs ≤ msEnts xs := Nat.le_of_eq (entityMk_sum xs)

/-- a store of an entity's number -/
theorem OwnSl.ent_store {w : World} {v : Value} {xs : List Entity} {F : List Nat} (h : OwnSl entityO w v xs F) (hN : F.Nodup) {i : Nat} (hi : i < xs.length) : ∃ g off cap, v = .slice (some ⟨g, off, none⟩) xs.length cap ∧ g ∈ F ∧
    w.cell? ⟨g, off + i * 2, none⟩ = some (.int .i64 xs[i].id) ∧ w.frozen? ⟨g, off + i * 2, none⟩ = false ∧
    ∀ u, I64 u → OwnSl entityO (w.setCell ⟨g, off + i * 2, none⟩ (.int .i64 u)) v (xs.set i ⟨u, xs[i].members⟩) F ∧
      ∃ m F1, (∀ b ∈ F1, b ∈ F) ∧ F1.Nodup ∧ OwnSl intO (w.setCell ⟨g, off + i * 2, none⟩ (.int .i64 u)) m xs[i].members F1 ∧ (w.setCell ⟨g, off + i * 2, none⟩ (.int .i64 u)).cell? ⟨g, off + i * 2 + 1, none⟩ = some m ∧
        ∀ w2 zs, (∀ b ∈ F, b ∉ F1 → w2.heap[b]? = (w.setCell ⟨g, off + i * 2, none⟩ (.int .i64 u)).heap[b]?) → OwnSl intO w2 m zs F1 → OwnSl entityO w2 v (xs.set i ⟨u, zs⟩) F := by
  have h0 := h
  obtain ⟨g, off, cap, c, F1, rfl, hg, _, hng, _, ⟨m0, rfl, hI, hm0⟩, _, hc, hf, _, hst⟩ := h.elem hN hi
  have h1 : entityO.n = 2 := rfl
  rw [h1] at hc hst
  refine ⟨g, off, cap, rfl, hg, by simpa using hc 0 (by omega), hf _, fun u hu => ?_⟩
  have hs := hst 0 (.int .i64 u) ⟨u, xs[i].members⟩ (by omega) ⟨m0, rfl, hu, hm0.keep fun b hb => keep_setCell fun e => hng (by have e2 : b = g := e; exact e2 ▸ hb)⟩
  rw [Nat.add_zero] at hs
  refine ⟨hs, ?_⟩
  obtain ⟨g', off', cap', c', F1', e, _, hsub, _, hN1, ⟨m, rfl, _, hm⟩, _, hc', _, hin, _⟩ := hs.elem hN (i := i) (by rw [List.length_set]; exact hi)
  injection e with e1 e2 e3
  injection e1 with e1
  injection e1 with e1 e4 _
  subst e1; subst e4
  rw [List.getElem_set_self] at hm
  rw [h1] at hc'
  refine ⟨m, F1', hsub, hN1, hm, by simpa using hc' 1 (by omega), fun w2 zs hk hz => ?_⟩
  have := hin w2 ⟨u, zs⟩ hk ⟨m, by rw [List.getElem_set_self], hu, hz⟩
  rwa [List.set_set] at this

set_option maxHeartbeats 400000 in
set_option maxRecDepth 20000 in
theorem markEntityS_c (v : Value) (xs : List Entity) (F : List Nat) (k : Int) (w : World) (h : OwnSl entityO w v xs F) (hN : F.Nodup) (h0 : 0 ≤ k) (hb : k + (lstMk entityMk).cnt xs ≤ 1152921504606846976) :
    Calls Try.prog 14 #[v, .int .i64 k] w fun e w2 => ∃ ys, e = .returned (.int .i64 (k + ((lstMk entityMk).cnt xs : Nat))) ∧ OwnSl entityO w2 v ys F ∧ (lstMk entityMk).is k xs ys ∧ Chg F w w2 := by
  have hcn : (lstMk entityMk).cnt xs = entityMk.sum xs := rfl
  rw [hcn] at hb ⊢
  clear hcn
  obtain ⟨A, cap, rfl, hm⟩ := h.form
  go_enter Try.func14, Try.ntmps14
  go_wp2
  go_loopw [1, 5] (fun l i wr => ∃ (j : Nat) (ys : List Entity), j ≤ xs.length ∧ i = .int .i64 j ∧ l = .int .i64 (k + (entityMk.sum (xs.take j) : Nat)) ∧ OwnSl entityO wr (.slice A xs.length cap) ys F ∧ Part entityMk k xs ys j ∧ Chg F w wr) (fun _ i _ => xs.length - (intOf i).toNat)
  case atStart => exact ⟨0, xs, Nat.zero_le _, rfl, by simp [Mk.sum], h, .zero _ _ _, .refl _ _⟩
  case round =>
    obtain ⟨j, ys, hj, rfl, rfl, ho, hp, hc⟩ := hrel
    by_cases hlt : j < xs.length
    · obtain ⟨hy, hyx⟩ := hp.at_ hlt
      have hst := entityMk.sum_step xs j hlt
      have hsa := entityMk.sum_at xs j hlt
      have hcx : entityMk.cnt xs[j] = 1 + xs[j].members.length := rfl
      obtain ⟨g, off, cap2, e, hg, hcell, hfr, hs⟩ := ho.ent_store hN hy
      injection e with e1 e2 e3
      subst e1
      clear e2 e3
      obtain ⟨_, m, F1, hsub, hN1, hm1, hcm, hin⟩ := hs (k + (entityMk.sum (xs.take j) : Nat)) (by unfold I64; omega)
      rw [hyx] at hm1
      obtain ⟨A3, cap3, e3, _⟩ := hm1.form
      subst e3
      have HI := hid hin
      have hcn2 : (lstMk intMk).cnt xs[j].members = xs[j].members.length := intMk_sum _
      have hb2 : k + (entityMk.sum (xs.take j) : Nat) + 1 + ((lstMk intMk).cnt xs[j].members : Nat) ≤ 1152921504606846976 := by rw [hcn2]; omega
      have hb3 : 0 ≤ k + (entityMk.sum (xs.take j) : Nat) + 1 := by omega
      have hst2 : k + ((entityMk.sum (xs.take j) : Nat) : Int) + 1 + (((lstMk intMk).cnt xs[j].members : Nat) : Int) = k + ((entityMk.sum (xs.take (j + 1)) : Nat) : Int) := by rw [hcn2]; omega
      have HST := hid hst2
      clear hs hin hyx hcn2 hst2 hcx hst
      go_wp2_with fail
      refine (markIntS_c _ xs[j].members F1 _ _ hm1 hN1 hb3 hb2).mono ?_
      rintro e w2 ⟨zs, rfl, hz, hzi, hzc⟩
      rw [HST.out]
      clear hsa hb2
      go_wp2
      go_roundw
      case rel =>
        refine ⟨j + 1, ys.set j ⟨k + (entityMk.sum (xs.take j) : Nat), zs⟩, by omega, by go_num, rfl, HI.out w2 zs (fun b hb hn => hzc.block b (by rw [World.size_setCell]; exact ho.lt b hb) hn) hz, hp.step hlt ⟨rfl, hzi⟩, (hc.setCell hg _).trans (hzc.mono hsub)⟩
      case measure => simp [intOf]; omega
    · go_wp2
      go_ret
      exact ⟨ys, ret_int (by rw [Mk.sum_all _ _ _ hlt]), ho, hp.all hlt, hc⟩

set_option maxHeartbeats 400000 in
set_option maxRecDepth 20000 in
theorem heldEntityS_c (v : Value) (xs ys : List Entity) (k : Int) (w : World) (h : Sl entityR w v ys) (hi : (lstMk entityMk).is k xs ys) (h0 : 0 ≤ k) (hb : k + (lstMk entityMk).cnt xs ≤ 1152921504606846976) :
    Calls Try.prog 16 #[v, .int .i64 k] w fun e w2 => e = .returned (.int .i64 (k + ((lstMk entityMk).cnt xs : Nat))) ∧ w = w2 := by
  have hcn : (lstMk entityMk).cnt xs = entityMk.sum xs := rfl
  rw [hcn] at hb ⊢
  clear hcn
  have HL := hid hi.1
  obtain ⟨A, cap, rfl, hm⟩ := h.form
  go_enter Try.func16, Try.ntmps16
  go_wp2
  go_loop [1, 5] (fun l i => ∃ j : Nat, j ≤ ys.length ∧ i = .int .i64 j ∧ l = .int .i64 (k + (entityMk.sum (xs.take j) : Nat))) (fun _ i => ys.length - (intOf i).toNat)
  case atStart => exact ⟨0, Nat.zero_le _, rfl, by simp [Mk.sum]⟩
  case round =>
    obtain ⟨j, hj, rfl, rfl⟩ := hrel
    by_cases hlt : j < ys.length
    · obtain ⟨b, off, A2, cap2, rfl, hI, hsl, hc0, hc1⟩ := h.ent hlt
      have hlx : j < xs.length := by have := HL.out; omega
      have hst := entityMk.sum_step xs j hlx
      have hsa := entityMk.sum_at xs j hlx
      have hcx : entityMk.cnt xs[j] = 1 + xs[j].members.length := rfl
      obtain ⟨hv1, hv2⟩ := hi.2 j hlx hlt
      rw [hv1] at hc0
      have hcn2 : (lstMk intMk).cnt xs[j].members = xs[j].members.length := intMk_sum _
      have hb2 : k + (entityMk.sum (xs.take j) : Nat) + 1 + ((lstMk intMk).cnt xs[j].members : Nat) ≤ 1152921504606846976 := by rw [hcn2]; omega
      have hb3 : 0 ≤ k + (entityMk.sum (xs.take j) : Nat) + 1 := by omega
      have hst2 : k + ((entityMk.sum (xs.take j) : Nat) : Int) + 1 + (((lstMk intMk).cnt xs[j].members : Nat) : Int) = k + ((entityMk.sum (xs.take (j + 1)) : Nat) : Int) := by rw [hcn2]; omega
      have HST := hid hst2
      have HV := hid hv2
      clear hv1 hcn2 hst2 hcx hst hv2
      go_wp2_with fail
      refine (heldIntS_c _ xs[j].members ys[j].members _ _ hsl HV.out hb3 hb2).mono ?_
      rintro e w2 ⟨rfl, rfl⟩
      rw [HST.out]
      have hnn : 0 ≤ k + (((entityMk.sum (xs.take (j + 1)) : Nat)) : Int) := by omega
      clear hsa hb2
      go_wp2
      go_round
      case rel => exact ⟨j + 1, by omega, by go_num, rfl⟩
      case measure => simp [intOf]; omega
    · go_wp2
      go_ret
      exact ⟨ret_int (by rw [Mk.sum_all _ _ _ (by have := HL.out; omega)]), rfl⟩
end Go.Proofs.Ytfcbapaojoecgab
