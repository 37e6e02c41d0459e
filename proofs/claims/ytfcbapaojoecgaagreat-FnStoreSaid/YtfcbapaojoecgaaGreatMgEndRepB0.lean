/-
  SEVERAL SMALL TEXTS LAID TOGETHER: StoO, BatS, RepB, MarkBt, RepS.
-/
import Derived.Test.YtfcbapaojoecgaaGreatMgEndAppB14
import Derived.Test.YtfcbapaojoecgaaGreatMgEndAppB10
import Derived.Test.YtfcbapaojoecgaaGreatMgEndAppB0
import Derived.Deep.Cut
import Derived.Test.YtfcbapaojoecgaaGreatMgEndAppB15

namespace Go.Proofs.YtfcbapaojoecgaaGreat
open Go.RowKit

theorem bless_trans : ∀ {x y z : List UInt8}, Op.bytesLess x y = true → Op.bytesLess y z = true → Op.bytesLess x z = true
  | [], [], _, h, _ => by simp [Op.bytesLess] at h
  | _ :: _, [], _, h, _ => by simp [Op.bytesLess] at h
  | _, _ :: _, [], _, k => by simp [Op.bytesLess] at k
  | [], _ :: _, _ :: _, _, _ => by simp [Op.bytesLess]
  | a :: x, b :: y, c :: z, h, k => by
    have ih := @bless_trans x y z
    simp only [Op.bytesLess, Bool.or_eq_true, Bool.and_eq_true, decide_eq_true_eq, beq_iff_eq] at h k ⊢
    rcases h with h | ⟨h, h2⟩
    · rcases k with k | ⟨k, k2⟩
      · exact .inl (UInt8.lt_iff_toNat_lt.2 (Nat.lt_trans (UInt8.lt_iff_toNat_lt.1 h) (UInt8.lt_iff_toNat_lt.1 k)))
      · subst k; exact .inl h
    · subst h
      rcases k with k | ⟨k, k2⟩
      · exact .inl k
      · exact .inr ⟨k, ih h2 k2⟩
theorem cmpS_neg {a b : ByteArray} : cmpS a b < 0 ↔ Op.bytesLess a.toList b.toList = true := by
  cases h : Op.bytesLess a.toList b.toList with
  | true => rw [cmpS_lt h]; simp
  | false =>
    unfold cmpS
    rw [h]
    simp only [Bool.false_eq_true, if_false, iff_false]
    split <;> decide
theorem cmpS_trans {a b c : ByteArray} (h : cmpS a b < 0) (k : cmpS b c < 0) : cmpS a c < 0 := cmpS_neg.2 (bless_trans (cmpS_neg.1 h) (cmpS_neg.1 k))
theorem cmpSL_trans : ∀ {x y z : List ByteArray}, cmpSL x y < 0 → cmpSL y z < 0 → cmpSL x z < 0
  | [], [], _, h, _ => by simp [cmpSL] at h
  | _ :: _, [], _, h, _ => by simp [cmpSL] at h
  | _, _ :: _, [], _, k => by simp [cmpSL] at k
  | [], _ :: _, _ :: _, _, _ => by simp [cmpSL]
  | a :: x, b :: y, c :: z, h, k => by
    rw [cmpSL] at h k ⊢
    by_cases h1 : cmpS a b = 0
    · rw [if_pos h1] at h
      have e := cmpS_zero.1 h1
      subst e
      by_cases k1 : cmpS a c = 0
      · rw [if_pos k1] at k ⊢
        exact cmpSL_trans h k
      · rw [if_neg k1] at k ⊢
        exact k
    · rw [if_neg h1] at h
      by_cases k1 : cmpS b c = 0
      · have e := cmpS_zero.1 k1
        subst e
        rw [if_neg h1]; exact h
      · rw [if_neg k1] at k
        have := cmpS_trans h k
        rw [if_neg (by omega)]; exact this
theorem fz_neg {a : Int} {l : List Int} : firstNZ (a :: l) < 0 ↔ a < 0 ∨ (a = 0 ∧ firstNZ l < 0) := by
  rw [firstNZ_cons]
  by_cases h : a = 0
  · rw [if_pos h]; exact ⟨fun k => .inr ⟨h, k⟩, fun k => k.elim (fun k => by omega) fun k => k.2⟩
  · rw [if_neg h]; exact ⟨.inl, fun k => k.elim id fun k => absurd k.1 h⟩
theorem cmpI_neg {a b : Int} : cmpI a b < 0 ↔ a < b := by unfold cmpI; split <;> (try split) <;> omega
theorem cmpR_neg {x y : Record} : cmpR x y < 0 ↔ x.source < y.source ∨ (x.source = y.source ∧ (x.key < y.key ∨ (x.key = y.key ∧ (x.version < y.version ∨ (x.version = y.version ∧ cmpSL x.fields y.fields < 0))))) := by
  have h0 : firstNZ ([] : List Int) = 0 := rfl
  rw [cmpR_heads, fz_neg, fz_neg, fz_neg, fz_neg, h0, cmpI_neg, cmpI_neg, cmpI_neg, cmpI_zero, cmpI_zero, cmpI_zero]
  simp
theorem cmpR_trans {x y z : Record} (h : cmpR x y < 0) (k : cmpR y z < 0) : cmpR x z < 0 := by
  rw [cmpR_neg] at h k ⊢
  rcases h with h | ⟨h1, h | ⟨h2, h | ⟨h3, h4⟩⟩⟩
  · rcases k with k | ⟨k1, k⟩ <;> exact .inl (by omega)
  · rcases k with k | ⟨k1, k | ⟨k2, k⟩⟩
    · exact .inl (by omega)
    · exact .inr ⟨by omega, .inl (by omega)⟩
    · exact .inr ⟨by omega, .inl (by omega)⟩
  · rcases k with k | ⟨k1, k | ⟨k2, k | ⟨k3, k⟩⟩⟩
    · exact .inl (by omega)
    · exact .inr ⟨by omega, .inl (by omega)⟩
    · exact .inr ⟨by omega, .inr ⟨by omega, .inl (by omega)⟩⟩
    · exact .inr ⟨by omega, .inr ⟨by omega, .inl (by omega)⟩⟩
  · rcases k with k | ⟨k1, k | ⟨k2, k | ⟨k3, k⟩⟩⟩
    · exact .inl (by omega)
    · exact .inr ⟨by omega, .inl (by omega)⟩
    · exact .inr ⟨by omega, .inr ⟨by omega, .inl (by omega)⟩⟩
    · exact .inr ⟨by omega, .inr ⟨by omega, .inr ⟨by omega, cmpSL_trans h4 k⟩⟩⟩
theorem cmpR_le {x y z : Record} (h : ¬ cmpR x y < 0) (k : ¬ cmpR y z < 0) : ¬ cmpR x z < 0 := fun c => by
  have ha := cmpR_anti x y
  by_cases e : cmpR x y = 0
  · rw [cmpR_zero.1 e] at c; exact k c
  · exact k (cmpR_trans (show cmpR y x < 0 by omega) c)

/-! ### The greatest of each identifier -/
def BestR (C : Record → Prop) (L : List Record) : Prop := RAsc L ∧ (∀ x ∈ L, C x) ∧ ∀ y, C y → ∃ x ∈ L, recID x = recID y ∧ ¬ cmpR x y < 0
theorem rasc_inj {L : List Record} (h : RAsc L) {x y : Record} (hx : x ∈ L) (hy : y ∈ L) (e : recID x = recID y) : x = y := by
  obtain ⟨i, hi, rfl⟩ := List.getElem_of_mem hx
  obtain ⟨j, hj, rfl⟩ := List.getElem_of_mem hy
  rcases Nat.lt_trichotomy i j with k | k | k
  · have := List.pairwise_iff_getElem.1 h i j hi hj k; omega
  · subst k; rfl
  · have := List.pairwise_iff_getElem.1 h j i hj hi k; omega
theorem rasc_ext {xs ys : List Record} (h : RAsc xs) (k : RAsc ys) (e : ∀ x, x ∈ xs ↔ x ∈ ys) : xs = ys := by
  have n1 : xs.Nodup := h.imp fun h e => by subst e; omega
  have n2 : ys.Nodup := k.imp fun h e => by subst e; omega
  exact List.Perm.eq_of_pairwise (le := fun x y => recID x < recID y) (fun a b _ _ h1 h2 => by omega) h k ((List.perm_ext_iff_of_nodup n1 n2).2 e)
theorem BestR.one {C : Record → Prop} {L M : List Record} (h : BestR C L) (k : BestR C M) : L = M := by
  have sub : ∀ {L M : List Record}, BestR C L → BestR C M → ∀ x ∈ L, x ∈ M := fun {L M} h k x hx => by
    obtain ⟨x2, m2, e2, g2⟩ := k.2.2 x (h.2.1 x hx)
    obtain ⟨x3, m3, e3, g3⟩ := h.2.2 x2 (k.2.1 x2 m2)
    have : x3 = x := rasc_inj h.1 m3 hx (by omega)
    subst this
    have ha := cmpR_anti x3 x2
    rw [cmpR_zero.1 (show cmpR x3 x2 = 0 by omega)]
    exact m2
  exact rasc_ext h.1 k.1 fun x => ⟨sub h k x, sub k h x⟩
theorem put_sup (r : Record) : ∀ L : List Record, (∃ x ∈ putR L r, recID x = recID r ∧ ¬ cmpR x r < 0) ∧ ∀ z ∈ L, ∃ x ∈ putR L r, recID x = recID z ∧ ¬ cmpR x z < 0
  | [] => ⟨⟨r, by simp [putR], rfl, by rw [cmpR_zero.2 rfl]; omega⟩, fun z hz => by cases hz⟩
  | x :: xs => by
    have self : ∀ y : Record, ¬ cmpR y y < 0 := fun y => by rw [cmpR_zero.2 rfl]; omega
    obtain ⟨⟨a, a1, a2, a3⟩, ih⟩ := put_sup r xs
    unfold putR
    by_cases h1 : recID x < recID r
    · rw [if_pos h1]
      refine ⟨⟨a, List.mem_cons_of_mem _ a1, a2, a3⟩, fun z hz => ?_⟩
      rcases List.mem_cons.1 hz with rfl | hz
      · exact ⟨z, List.mem_cons_self .., rfl, self z⟩
      · obtain ⟨b, b1, b2⟩ := ih z hz
        exact ⟨b, List.mem_cons_of_mem _ b1, b2⟩
    · rw [if_neg h1]
      by_cases h2 : recID x = recID r
      · rw [if_pos h2]
        by_cases h3 : cmpR x r < 0
        · rw [if_pos h3]
          refine ⟨⟨r, List.mem_cons_self .., rfl, self r⟩, fun z hz => ?_⟩
          rcases List.mem_cons.1 hz with rfl | hz
          · exact ⟨r, List.mem_cons_self .., h2.symm, by have := cmpR_anti z r; omega⟩
          · exact ⟨z, List.mem_cons_of_mem _ hz, rfl, self z⟩
        · rw [if_neg h3]
          refine ⟨⟨x, List.mem_cons_self .., h2, h3⟩, fun z hz => ⟨z, hz, rfl, self z⟩⟩
      · rw [if_neg h2]
        exact ⟨⟨r, List.mem_cons_self .., rfl, self r⟩, fun z hz => ⟨z, List.mem_cons_of_mem _ hz, rfl, self z⟩⟩
theorem BestR.put {C : Record → Prop} {L : List Record} (h : BestR C L) (r : Record) : BestR (fun y => C y ∨ y = r) (putR L r) := by
  obtain ⟨⟨a, a1, a2, a3⟩, s⟩ := put_sup r L
  refine ⟨putR_asc h.1, fun x hx => ?_, fun y hy => ?_⟩
  · rcases putR_mem hx with rfl | hx
    · exact .inr rfl
    · exact .inl (h.2.1 x hx)
  · rcases hy with hy | rfl
    · obtain ⟨z, z1, z2, z3⟩ := h.2.2 y hy
      obtain ⟨x, x1, x2, x3⟩ := s z z1
      exact ⟨x, x1, x2.trans z2, cmpR_le x3 z3⟩
    · exact ⟨a, a1, a2, a3⟩
theorem BestR.iff {C D : Record → Prop} {L : List Record} (h : BestR C L) (e : ∀ y, C y ↔ D y) : BestR D L := ⟨h.1, fun x hx => (e x).1 (h.2.1 x hx), fun y hy => h.2.2 y ((e y).2 hy)⟩
theorem best_ups : ∀ (ops : List Op) {C : Record → Prop} {L : List Record}, BestR C L → BestR (fun y => C y ∨ ∃ o ∈ ops, o.kind = 1 ∧ y = o.record) (ops.foldl upR L)
  | [], C, L, h => h.iff fun y => by simp
  | o :: ops, C, L, h => by
    rw [List.foldl_cons]
    by_cases hk : o.kind = 1
    · have := best_ups ops (h.put o.record)
      rw [show upR L o = putR L o.record by unfold upR; rw [if_pos hk]]
      refine this.iff fun y => ?_
      simp only [List.mem_cons, exists_eq_or_imp, hk, true_and, or_assoc]
    · rw [show upR L o = L by unfold upR; rw [if_neg hk]]
      refine (best_ups ops h).iff fun y => ?_
      simp only [List.mem_cons, exists_eq_or_imp, hk, false_and, false_or]
theorem best_self {L : List Record} (h : RAsc L) : BestR (fun y => y ∈ L) L := ⟨h, fun _ hx => hx, fun y hy => ⟨y, hy, rfl, by rw [cmpR_zero.2 rfl]; omega⟩⟩
theorem ups_rev {L : List Record} (h : RAsc L) (ops : List Op) : ops.reverse.foldl upR L = ops.foldl upR L :=
  BestR.one (best_ups ops.reverse (best_self h)) ((best_ups ops (best_self h)).iff fun y => by simp)
theorem dns_filter : ∀ (ops : List Op) (rs : List Record), ops.foldl dnR rs = rs.filter fun r => ops.all fun o => !(decide (o.kind = 2) && delP o.record r)
  | [], rs => (List.filter_eq_self.2 fun _ _ => rfl).symm
  | o :: ops, rs => by
    have e : dnR rs o = rs.filter fun r => !(decide (o.kind = 2) && delP o.record r) := by
      unfold dnR delR
      by_cases h : o.kind = 2
      · simp [h]
      · rw [if_neg h]; exact (List.filter_eq_self.2 fun x _ => by simp [h]).symm
    rw [List.foldl_cons, dns_filter ops, e, List.filter_filter]
    congr 1
    funext r
    rw [List.all_cons, Bool.and_comm]
theorem dns_rev (ops : List Op) (rs : List Record) : ops.reverse.foldl dnR rs = ops.foldl dnR rs := by
  rw [dns_filter, dns_filter]
  congr 1
  funext r
  exact List.all_reverse
def revB (b : Batch) : Batch := ⟨b.ops.reverse⟩
theorem okBat_rev (b : Batch) : okBat (revB b) = okBat b := by
  unfold okBat revB
  simp only [List.length_reverse, List.all_reverse]
theorem newSto_rev {s : Store} {b : Batch} (h : okSto s = true) : newSto s (revB b) = newSto s b := by
  obtain ⟨g, a, _⟩ := okSto_all h
  unfold newSto revB
  simp only
  rw [ups_rev g.1, dns_rev]
  congr 1
  refine asc_ext (compV_asc (sortS_sorted _)) (compV_asc (sortS_sorted _)) fun x => ?_
  rw [compV_mem, compV_mem, (sortS_perm _).mem_iff, (sortS_perm _).mem_iff, dnV_all, dnV_all, upV_all, upV_all]
  simp only [List.mem_reverse]
theorem appB_rev (s : Store) (b : Batch) : appB s (revB b) = appB s b := by
  unfold appB
  rw [okBat_rev]
  by_cases h : okSto s = true
  · rw [newSto_rev h]
  · rw [if_neg (fun c => h c.1), if_neg (fun c => h c.1)]

/-! ### Replaying -/
noncomputable def repF (s : Store) (i : Nat) : List Batch → Store × Nat
  | [] => (s, i)
  | b :: l => if (appB s b).2 = true then repF (appB s b).1 (i + 1) l else (s, i)
def zeroSto : Store := ⟨0, [], []⟩
noncomputable def repB (l : List Batch) : Store × Nat := repF zeroSto 0 l
theorem appB_ok {s : Store} {b : Batch} (h : okSto s = true) : okSto (appB s b).1 = true := by
  unfold appB
  split
  · rename_i k; exact k.2.2
  · exact h
theorem appB_ver {s : Store} {b : Batch} (h : (appB s b).2 = true) : (appB s b).1.version = s.version + 1 ∧ okSto (appB s b).1 = true := by
  unfold appB at h ⊢
  split at h
  · rename_i k
    rw [if_pos k]; exact ⟨rfl, k.2.2⟩
  · cases h
theorem zeroSto_ok : okSto zeroSto = true := okSto_of ⟨List.Pairwise.nil, fun _ h => by cases h⟩ (asc_areVers asc_nil (fun _ h => by cases h) (by simp [zeroSto])) (by decide) (by simp [zeroSto])
theorem repF_ok : ∀ (l : List Batch) (s : Store) (i : Nat), okSto s = true → s.version = (i : Int) → okSto (repF s i l).1 = true ∧ (repF s i l).1.version = ((repF s i l).2 : Int)
  | [], s, i, h, k => ⟨h, k⟩
  | b :: l, s, i, h, k => by
    unfold repF
    by_cases c : (appB s b).2 = true
    · rw [if_pos c]
      obtain ⟨v1, v2⟩ := appB_ver c
      exact repF_ok l _ _ v2 (by rw [v1, k]; omega)
    · rw [if_neg c]; exact ⟨h, k⟩
theorem repB_ok (l : List Batch) : okSto (repB l).1 = true ∧ (repB l).1.version = ((repB l).2 : Int) := repF_ok l zeroSto 0 zeroSto_ok rfl
theorem repF_le : ∀ (l : List Batch) (s : Store) (i : Nat), (repF s i l).2 ≤ i + l.length
  | [], s, i => by simp [repF]
  | b :: l, s, i => by
    unfold repF
    split
    · have := repF_le l (appB s b).1 (i + 1); simp only [List.length_cons]; omega
    · simp only [List.length_cons]; omega
theorem find_self {xs : List Record} (h : RAsc xs) (i : Nat) (hi : i < xs.length) : idxF (fun r => recID r == recID xs[i]) 0 xs = (i : Int) := by
  rcases idxF_lt (fun r => recID r == recID xs[i]) xs 0 with ⟨e, k⟩ | ⟨j, hj, e, hj2, k⟩
  · have := k _ (List.getElem_mem hi)
    simp at this
  · have he : recID xs[j] = recID xs[i] := by simpa using k
    have : j = i := by
      rcases Nat.lt_trichotomy i j with c | c | c
      · have := List.pairwise_iff_getElem.1 h i j hi hj c; omega
      · exact c.symm
      · have := List.pairwise_iff_getElem.1 h j i hj hi c; omega
    rw [e, this]; simp
end Go.Proofs.YtfcbapaojoecgaaGreat

namespace Go.Proofs.YtfcbapaojoecgaaGreat
open Go.RowKit

def Batch.ok (_ : Batch) : Prop := True
def Batch.cells (_ : Batch) (f : Value) : List Value := [f]
def batchO : RepO Batch :=
  { batchR with
    own := fun w cs r F => ∃ f, cs = [f] ∧ True ∧ OwnSl opO w f r.ops F
    own_rd := fun ⟨f, h, k, s⟩ => ⟨f, h, k, s.sl⟩
    own_lt := fun ⟨_, _, _, s⟩ => s.lt
    own_keep := fun hk ⟨f, h, k, s⟩ => ⟨f, h, k, s.keep hk⟩ }

theorem Sl.batch {w : World} {A : Option Addr} {n cap : Nat} {xs : List Batch} (h : Sl batchR w (.slice A n cap) xs) {i : Nat} (hi : i < xs.length) :
    ∃ b off A2 cap2, A = some ⟨b, off, none⟩ ∧ xs[i].ok ∧ Sl opR w (.slice A2 xs[i].ops.length cap2) xs[i].ops ∧ w.cell? ⟨b, off + i, none⟩ = some (.slice A2 xs[i].ops.length cap2) := by
  obtain ⟨b, off, cs, rfl, ⟨m, rfl, hok, hs⟩, hc⟩ := h.at_ hi
  have hs' := hs
  obtain ⟨A2, cap2, rfl, _⟩ := hs
  exact ⟨b, off, A2, cap2, rfl, hok, hs', by simpa [batchR, Batch.cells] using hc 0 (by simp [batchR])⟩

set_option maxHeartbeats 400000 in
theorem szBatchS_c (v : Value) (xs : List Batch) (left : Int) (w : World) (h : Sl batchR w v xs) (h0 : 0 ≤ left) (h1 : left ≤ 1048576) :
    Calls Tryz.prog 17 #[v, .int .i64 left] w fun e w2 => e = .returned (.int .i64 (szv ((xs.length + sumBy msBat xs : Nat) : Int) left)) ∧ Ext w w2 := by
  obtain ⟨A, cap, rfl, hm⟩ := h.form
  by_cases hlt : left < xs.length
  · go_enter Tryz.func17, Tryz.ntmps17
    go_wp2
    go_ret
    exact ⟨ret_int (by symm; unfold szv; rw [if_pos (by omega)]), Ext.refl _⟩
  · go_enter Tryz.func17, Tryz.ntmps17
    go_wp2
    go_loopw [1, 5] (fun l i wr => ∃ k : Nat, k ≤ xs.length ∧ i = .int .i64 k ∧ sumBy msBat (xs.take k) + xs.length ≤ left ∧ l = .int .i64 (left - xs.length - (sumBy msBat (xs.take k) : Nat)) ∧ Ext w wr) (fun _ i _ => xs.length - (intOf i).toNat)
    case atStart => exact ⟨0, Nat.zero_le _, rfl, by simp [sumBy]; omega, by simp [sumBy], Ext.refl _⟩
    case round =>
      obtain ⟨k, hk, rfl, hs, rfl, hx⟩ := hrel
      by_cases hlk : k < xs.length
      · obtain ⟨b, off, A2, cap2, rfl, hok, hsl, hc0⟩ := (h.mono hx).batch hlk
        have hst := sumBy_take msBat xs k hlk
        have hsa := sumBy_at msBat xs k hlk
        have HS := hid hst
        clear hst
        go_wp2_with fail
        refine (szBatch_c _ xs[k] _ _ ⟨_, rfl, hok, hsl⟩ (by omega) (by omega)).mono ?_
        rintro e w2 ⟨rfl, x2⟩
        obtain ⟨M, hM⟩ : ∃ M, M = msBat xs[k] := ⟨_, rfl⟩
        rw [show ((msBat xs[k] : Nat) : Int) = (M : Int) by rw [hM]]
        rw [← hM] at hsa
        have HM := hid hM
        clear hM hok
        by_cases hfit : left - xs.length - (sumBy msBat (xs.take k) : Nat) < M
        · rw [show szv (M : Int) (left - xs.length - (sumBy msBat (xs.take k) : Nat)) = -1 by simp [szv, hfit]]
          go_wp2
          go_ret
          exact ⟨ret_int (by symm; unfold szv; rw [if_pos (by omega)]), hx.trans x2⟩
        · rw [show szv (M : Int) (left - xs.length - (sumBy msBat (xs.take k) : Nat)) = left - xs.length - (sumBy msBat (xs.take k) : Nat) - M by simp [szv, hfit]]
          go_wp2
          go_roundw
          case rel => exact ⟨k + 1, by omega, by go_num, by rw [HS.out, ← HM.out]; omega, by rw [HS.out, ← HM.out]; congr 1; omega, hx.trans x2⟩
          case measure => simp [intOf]; omega
      · go_wp2
        go_ret
        rw [List.take_of_length_le (by omega)] at hs
        exact ⟨ret_int (by rw [List.take_of_length_le (by omega)]; unfold szv; rw [if_neg (by omega)]; omega), hx⟩

theorem infoBatch : (Tryz.prog.info? 40).map (fun i => (i.zero, i.size, i.bytes)) = some (some (.agg #[.slice none 0 0]), 1, 24) := by kernel_rfl
def batchZ : List Value := [.slice none 0 0]

set_option maxHeartbeats 400000 in
set_option maxRecDepth 100000 in
theorem toBatchS_c (v : Value) (xs : List Batch) (w : World) (h : Sl batchR w v xs) (hb : xs.length + sumBy msBat xs ≤ 1048576) :
    Calls Tryz.prog 19 #[v] w fun e w2 => ∃ v2 F, e = .returned v2 ∧ OwnSl batchO w2 v2 xs F ∧ NewF w F ∧ Ext w w2 := by
  obtain ⟨A, cap, rfl, hm⟩ := h.form
  obtain ⟨i0, hi0, hz0, hz1, hz2⟩ := info_parts infoBatch
  have hmk := run_mk (P := Tryz.prog) 51 40 i0 _ batchZ 24 Tryz.underlying51 hi0 hz0 rfl hz1 hz2 xs.length (by omega) hm
  go_enter Tryz.func19, Tryz.ntmps19
  go_wp2
  go_loopw [4] (fun i wr => ∃ (k : Nat) (done : List Value) (F : List Nat), k ≤ xs.length ∧ i = .int .i64 k ∧ Blk wr w.heap.size 40 (done ++ (List.replicate (xs.length - k) batchZ).flatten) ∧
    OwnCells batchO wr done (xs.take k) F ∧ FromF w.heap.size F ∧ Ext w wr) (fun i _ => xs.length - (intOf i).toNat)
  case atStart => exact ⟨0, [], [], Nat.zero_le _, rfl, by simpa using Blk.new w 40 (List.replicate xs.length batchZ).flatten.toArray, .nil, .nil _, (Ext.refl _).alloc _⟩
  case round =>
    obtain ⟨k, done, F, hk, rfl, hblk, hown, hF, hx⟩ := hrel
    by_cases hlt : k < xs.length
    · obtain ⟨b, off, A2, cap2, rfl, hok, hsl, hc0⟩ := (h.mono hx).batch hlt
      have hz : (List.replicate (xs.length - k) batchZ).flatten = .slice none 0 0 :: (List.replicate (xs.length - (k + 1)) batchZ).flatten := by
        rw [show xs.length - k = (xs.length - (k + 1)) + 1 by omega, List.replicate_succ]; rfl
      rw [hz] at hblk
      clear hz
      have hl : done.length = k := by rw [hown.length]; simp [batchO, batchR]; omega
      have hgl := block_lt hblk.out
      have HL := hid hl
      have hbk : msBat xs[k] ≤ 1048576 := by have := sumBy_at msBat xs k hlt; omega
      clear hl
      go_wp2_with fail
      refine (toBatch_c _ xs[k] _ ⟨_, rfl, hok, hsl⟩ hbk).mono ?_
      rintro e w2 ⟨v2, F2, rfl, ⟨m2, rfl, _, ho⟩, hn, x2⟩
      have hblk2 := hblk.ext x2
      obtain ⟨A3, cap3, e3, _⟩ := ho.form
      subst e3
      obtain ⟨p0, q0⟩ := hblk2.at_ HL.out
      have b0 := hblk2.store HL.out (Value.slice A3 xs[k].ops.length cap3)
      have hk2 : ∀ b, b ≠ w.heap.size → (w2.setCell ⟨w.heap.size, k, none⟩ (Value.slice A3 xs[k].ops.length cap3)).heap[b]? = w2.heap[b]? :=
        fun b hb => (keep_setCell hb)
      obtain ⟨ho3, hF3⟩ := hown.step (R := batchO) hF x2 ⟨_, rfl, hok, ho⟩ hn hgl hk2
      have HK := hid (And.intro ho3 hF3)
      have HST := hid b0
      clear hblk hblk2 HL b0  hk2 ho3 hF3 hok
      go_wp2
      go_roundw
      case rel => exact ⟨k + 1, done ++ [(Value.slice A3 xs[k].ops.length cap3)], F ++ F2, by omega, by go_num, by simpa using HST.out, by rw [List.take_succ_eq_append_getElem hlt]; simpa [Batch.cells] using HK.out.1, HK.out.2, ((hx.trans x2).setCell (by simp) _)⟩
      case measure => simp [intOf]; omega
    · go_wp2
      go_ret
      rw [show xs.length - k = 0 by omega, List.replicate_zero, List.flatten_nil, List.append_nil] at hblk
      rw [List.take_of_length_le (by omega)] at hown
      exact ⟨_, _, rfl, OwnSl.of_blk hblk (by unfold maxLen; omega) hown, hF.new rfl, hx⟩

set_option maxHeartbeats 400000 in
set_option maxRecDepth 20000 in
theorem eqBatchS_c (v u : Value) (xs ys : List Batch) (w : World) (h : Sl batchR w v xs) (k : Sl batchR w u ys) :
    Calls Tryz.prog 21 #[v, u] w fun e w2 => e = .returned (.bool (eqB xs ys)) ∧ Ext w w2 := by
  obtain ⟨A, cap, rfl, hm⟩ := h.form
  obtain ⟨B, cap2, rfl, hm2⟩ := k.form
  by_cases hl : xs.length = ys.length
  · have hl' : ((xs.length : Int) != (ys.length : Int)) = false := by simp [hl]
    have HL := hid hl
    clear hl
    go_enter Tryz.func21, Tryz.ntmps21
    go_wp2
    go_loopw [5] (fun i wr => ∃ k2 : Nat, k2 ≤ xs.length ∧ i = .int .i64 k2 ∧ xs.take k2 = ys.take k2 ∧ Ext w wr) (fun i _ => xs.length - (intOf i).toNat)
    case atStart => exact ⟨0, Nat.zero_le _, rfl, by simp, Ext.refl _⟩
    case round =>
      obtain ⟨k2, hk, rfl, he, hx⟩ := hrel
      have HE := hid he
      clear he
      by_cases hlt : k2 < xs.length
      · have hlt2 : k2 < ys.length := by have := HL.out; omega
        obtain ⟨b, off, A2, cap3, rfl, hok, hi, hc0⟩ := (h.mono hx).batch hlt
        obtain ⟨b2, off2, A3, cap4, rfl, hok2, hi2, hd0⟩ := (k.mono hx).batch hlt2
        have hcz0 : ∀ z : ExtOf wr, z.1.cell? ⟨b, off + k2, none⟩ = _ := fun z => z.2.cell hc0
        have hdz0 : ∀ z : ExtOf wr, z.1.cell? ⟨b2, off2 + k2, none⟩ = _ := fun z => z.2.cell hd0
        by_cases h0 : xs[k2] = ys[k2]
        · have H0 := hid h0
          clear h0
          go_wp2_with fail
          refine wp_region_ext (by kernel_rfl) (by kernel_rfl) ?_
          repeat (go_big_quiet_step (((go_at_call 13; exact quiet_ext (eqBatch_c _ _ xs[k2] ys[k2] _ ⟨_, rfl, hok, hi.mono (Subtype.property _)⟩ ⟨_, rfl, hok2, hi2.mono (Subtype.property _)⟩)))))
          refine wpQuiet_nil ?_
          rintro w1 ⟨⟨_, x1⟩, rfl⟩
          rw [eqB_true H0.out]
          go_wp2
          go_roundw
          case rel => exact ⟨k2 + 1, by omega, by go_num, take_snoc_eq hlt hlt2 H0.out HE.out, hx.trans x1⟩
          case measure => simp [intOf]; omega
        · have H0 := hid h0
          clear h0
          go_wp2_with fail
          refine wp_region_ext (by kernel_rfl) (by kernel_rfl) ?_
          repeat (go_big_quiet_step (((go_at_call 13; exact quiet_ext (eqBatch_c _ _ xs[k2] ys[k2] _ ⟨_, rfl, hok, hi.mono (Subtype.property _)⟩ ⟨_, rfl, hok2, hi2.mono (Subtype.property _)⟩)))))
          refine wpQuiet_nil ?_
          rintro w1 ⟨⟨_, x1⟩, rfl⟩
          rw [eqB_false H0.out]
          go_wp2
          go_ret
          exact ⟨ret_bool (eqB_false (ne_of_at hlt hlt2 H0.out)).symm, hx.trans x1⟩
      · go_wp2
        go_ret
        exact ⟨ret_bool (eqB_true (eq_of_take hlt HL.out HE.out)).symm, hx⟩
  · have hl' : ((xs.length : Int) != (ys.length : Int)) = true := by simp; omega
    go_enter Tryz.func21, Tryz.ntmps21
    go_wp2
    go_ret
    exact ⟨ret_bool (eqB_false fun e => hl (by rw [e])).symm, Ext.refl _⟩
end Go.Proofs.YtfcbapaojoecgaaGreat

namespace Go.Proofs.YtfcbapaojoecgaaGreat
open Go.RowKit

theorem okF_size {s : ByteArray} (h : okF s = true) : s.size ≤ 40 := by
  unfold okF okT at h
  simp only [Bool.and_eq_true, decide_eq_true_eq] at h
  exact h.2.2
theorem sumSizeF_le : ∀ {xs : List ByteArray}, (∀ x ∈ xs, okF x = true) → sumSize xs ≤ 40 * xs.length
  | [], _ => by simp [sumSize]
  | x :: xs, h => by
    have h1 := sumSizeF_le fun y hy => h y (List.mem_cons_of_mem x hy)
    have h2 := okF_size (h x (List.mem_cons_self ..))
    unfold sumSize at h1 ⊢
    simp only [List.map_cons, List.sum_cons, List.length_cons]
    omega
theorem msRecs_small : ∀ {xs : List Record}, (∀ x ∈ xs, okRec x = true) → sumBy msRec xs ≤ 164 * xs.length
  | [], _ => by simp [sumBy]
  | x :: xs, h => by
    have h1 := msRecs_small fun y hy => h y (List.mem_cons_of_mem x hy)
    have hr := h x (List.mem_cons_self ..)
    have h2 := okRec_len hr
    have h3 : sumSize x.fields ≤ 40 * x.fields.length := sumSizeF_le fun y hy => by
      unfold okRec at hr
      simp only [Bool.and_eq_true] at hr
      exact List.all_eq_true.1 hr.2 y hy
    unfold sumBy at h1 ⊢
    simp only [List.map_cons, List.sum_cons, List.length_cons]
    have : msRec x = x.fields.length + sumSize x.fields := rfl
    omega
theorem okSto_ms {s : Store} (h : okSto s = true) : msRecs s.records ≤ 1048576 ∧ s.verdicts.length ≤ 1048576 := by
  obtain ⟨g, _, _, _, _, h1, h2⟩ := okSto_all h
  have := msRecs_small g.2
  unfold msRecs
  omega

/-- a call's answer: a store in new memory, and a number -/
def RepOut (w : World) (e : Ending) (w2 : World) (r : Store × Nat) : Prop := ∃ rv vv F, e = .returned (.tuple #[.agg #[.int .i64 r.1.version, rv, vv], .int .i64 r.2]) ∧ Rows2 w2 w.heap.size rv vv r.1.records r.1.verdicts F ∧ I64 r.1.version ∧ Ext w w2

set_option maxHeartbeats 8000000 in
set_option maxRecDepth 20000 in
theorem impl_ReplayBatches (v : Value) (xs : List Batch) (w : World) (h : Sl batchR w v xs) (hl : xs.length ≤ 1048576) :
    Calls Tryz.prog 20 #[v] w (RepOut w · · (repB xs)) := by
  obtain ⟨A, cap, rfl, hm⟩ := h.form
  obtain ⟨W1, hW1⟩ : ∃ W1, W1 = w.alloc (.cells #[.int .i64 0, .slice none 0 0, .slice none 0 0] 34) := ⟨_, rfl⟩
  have xw1 : Ext w W1 := by rw [hW1]; exact (Ext.refl w).alloc _
  have hsz : W1.heap.size = w.heap.size + 1 := by rw [hW1]; simp
  have bZ : Blk W1 w.heap.size 34 [.int .i64 0, .slice none 0 0, .slice none 0 0] := by rw [hW1]; exact Blk.new w 34 #[.int .i64 0, .slice none 0 0, .slice none 0 0]
  have HZ := hid (show ∀ W, Ext W1 W → Blk W w.heap.size 34 [.int .i64 0, .slice none 0 0, .slice none 0 0] from fun W y => bZ.ext y)
  have HXS := hid (show ∀ W, Ext W1 W → Sl batchR W (.slice A xs.length cap) xs from fun W y => (h.mono xw1).mono y)
  have hS0 : Sx (W1.alloc (.cells #[.int .i64 0, .slice none 0 0, .slice none 0 0] 34)) W1.heap.size W1.heap.size 0 (.slice none 0 0) (.slice none 0 0) [] [] [] := Sx.new (Rows2.mk (Bld.nil W1 W1.heap.size 72) (Bld.nil W1 W1.heap.size 74) (fun _ h => by cases h)) (Nat.le_refl _)
  have HS := hid hsz
  have HX := hid xw1
  clear h bZ
  go_enter Tryz.func20, Tryz.ntmps20
  go_wp2_with fail
  rw [← hW1]
  clear hW1
  rw [← hsz]
  clear hsz xw1
  obtain ⟨gx, hgx⟩ : ∃ gx, gx = W1.heap.size := ⟨_, rfl⟩
  rw [← hgx]
  have hS1 : Sx (W1.alloc (.cells #[.int .i64 0, .slice none 0 0, .slice none 0 0] 34)) W1.heap.size gx 0 (.slice none 0 0) (.slice none 0 0) [] [] [] := by rw [hgx]; exact hS0
  clear hS0 hgx
  go_loopw [11] (fun i wr => ∃ (k : Nat) (s : Store) (rv vv : Value) (F : List Nat), k ≤ xs.length ∧ i = .int .i64 k ∧ Sx wr W1.heap.size gx s.version rv vv s.records s.verdicts F ∧ Ext W1 wr ∧ repF s k (xs.drop k) = repB xs ∧ okSto s = true ∧ s.version = (k : Int)) (fun i _ => xs.length - (intOf i).toNat)
  case atStart => exact ⟨0, zeroSto, _, _, _, Nat.zero_le _, rfl, hS1, (Ext.refl _).alloc _, rfl, zeroSto_ok, rfl⟩
  case round =>
    clear hS1
    obtain ⟨k, s, rv, vv, F, hk, rfl, hS, hx, hrep, hok, hver⟩ := hrel
    obtain ⟨Ar, cr, er, _⟩ := hS.r.r.sl.form
    subst er
    obtain ⟨Av, cv, ev, _⟩ := hS.r.v.sl.form
    subst ev
    have HRP := hid hrep
    have HVER := hid hver
    have HI64 := hid (show I64 s.version from by rw [hver]; exact ⟨by omega, by omega⟩)
    have HMS := hid (okSto_ms hok)
    clear hrep hver
    by_cases hlt : k < xs.length
    · have HDR := hid (List.drop_eq_getElem_cons hlt)
      obtain ⟨b1, off, A2, cap2, eA, _, hsl, c0⟩ := (HXS.out _ hx).batch hlt
      subst eA
      have xb : Ext wr (wr.alloc (.cells #[.slice A2 xs[k].ops.length cap2] 40)) := (Ext.refl wr).alloc _
      have hSb := hS.ext xb
      obtain ⟨⟨g0, g1, g2⟩, gf⟩ := hSb.cells
      have HBA := hid (show BatAt (wr.alloc (.cells #[.slice A2 xs[k].ops.length cap2] 40)) (.agg #[.slice A2 xs[k].ops.length cap2]) xs[k] from ⟨_, rfl, trivial, hsl.mono xb⟩)
      have HSA := hid (hSb.at_ HI64.out)
      clear hSb
      go_wp2_with fail
      refine (impl_ApplyBatch _ _ s xs[k] _ HSA.out HBA.out HMS.out.1 HMS.out.2).mono ?_
      rintro e w5 ⟨rn, vn, Fn, rfl, R, hI5, x5⟩
      obtain ⟨t, ht⟩ : ∃ t, t = appB s xs[k] := ⟨_, rfl⟩
      rw [← ht] at R hI5 ⊢
      have HT := hid ht
      clear ht
      obtain ⟨t, tb⟩ := t
      dsimp only at R hI5 ⊢
      obtain ⟨An, cn, en, _⟩ := R.r.sl.form
      subst en
      obtain ⟨Am, cm, em, _⟩ := R.v.sl.form
      subst em
      clear g0 g1 g2 gf
      go_upto_region 6 with fail
      have hALL : ∃ W6 l6, W6 = (w5.alloc (.cells #[.int .i64 t.version, .slice An t.records.length cn, .slice Am t.verdicts.length cm] 34)) ∧ l6 = w5.heap.size ∧ Ext (wr.alloc (.cells #[.slice A2 xs[k].ops.length cap2] 40)) W6 ∧ Rows2 W6 (wr.alloc (.cells #[.slice A2 xs[k].ops.length cap2] 40)).heap.size (.slice An t.records.length cn) (.slice Am t.verdicts.length cm) t.records t.verdicts Fn ∧ W6.cell? ⟨l6, 0, none⟩ = some (.int .i64 t.version) ∧ W6.cell? ⟨l6, 1, none⟩ = some (.slice An t.records.length cn) ∧ W6.cell? ⟨l6, 2, none⟩ = some (.slice Am t.verdicts.length cm) := by
        have b9 := Blk.new w5 34 #[.int .i64 t.version, .slice An t.records.length cn, .slice Am t.verdicts.length cm]
        exact ⟨_, _, rfl, rfl, x5.alloc _, R.ext ((Ext.refl w5).alloc _), b9.cells.1 0, b9.cells.1 1, b9.cells.1 2⟩
      obtain ⟨W6, l6, hW6, hl6, x6, R6, k60, k61, k62⟩ := hALL
      rw [← hW6, ← hl6]
      clear hW6 hl6 R
      have HR6 := hid R6
      have HGX := hid (show gx < (wr.alloc (.cells #[.slice A2 xs[k].ops.length cap2] 40)).heap.size from by have := hS.lt; have := xb.size; omega)
      have HB6 := hid (show W1.heap.size ≤ (wr.alloc (.cells #[.slice A2 xs[k].ops.length cap2] 40)).heap.size from (hx.trans xb).size)
      have HBX6 := hid (And.intro k60 (And.intro k61 k62))
      clear R6 k60 k61 k62
      cases tb with
      | false =>
        have HREP := hid (show (s, k) = repB xs from by rw [← HRP.out, HDR.out, repF, if_neg (by rw [← HT.out]; simp)])
        have hx9 : Ext W1 W6 := hx.trans (xb.trans x6)
        have hS9 := hS.ext (xb.trans x6)
        obtain ⟨⟨g0, g1, g2⟩, gf⟩ := hS9.cells
        have bz := HZ.out _ hx9
        obtain ⟨⟨z0, z1, z2⟩, zf⟩ := (⟨⟨bz.cells.1 0, bz.cells.1 1, bz.cells.1 2⟩, bz.cells.2⟩ : (_ ∧ _ ∧ _) ∧ _)
        have b9 := Blk.store3 bz (.int .i64 s.version) (.slice Ar s.records.length cr) (.slice Av s.verdicts.length cv)
        have r0 := b9.cells.1 0
        have r1 := b9.cells.1 1
        have r2 := b9.cells.1 2
        have HFIN := hid (show ∀ n : Nat, (s, n) = repB xs → RepOut w (.returned (.tuple #[.agg #[.int .i64 s.version, .slice Ar s.records.length cr, .slice Av s.verdicts.length cv], .int .i64 n])) (((W6.setCell ⟨w.heap.size, 0, none⟩ (.int .i64 s.version)).setCell ⟨w.heap.size, 1, none⟩ (.slice Ar s.records.length cr)).setCell ⟨w.heap.size, 2, none⟩ (.slice Av s.verdicts.length cv)) (repB xs) from by
          intro n hn
          have hsz := HS.out
          obtain ⟨n1, n2⟩ := hS9.r.r.below (g := w.heap.size) (by omega)
          obtain ⟨_, n3⟩ := hS9.r.v.below (g := w.heap.size) (by omega)
          rw [← hn]
          exact ⟨_, _, _, rfl, (hS9.r.kp (Kp.store3 w.heap.size 0 _ _ _ _) n1 n2 n3).low (by omega), HI64.out, Ext.store3 (HX.out.trans hx9) (by omega) _ _ _⟩)
        clear b9 bz hS9
        go_wp2
        refine bodyPost_ret (v := .tuple #[.agg #[.int .i64 s.version, .slice Ar s.records.length cr, .slice Av s.verdicts.length cv], .int .i64 (k : Nat)]) (by simp [results, Tryz.results20, go_sem, r0, r1, r2]) rfl ?_
        exact HFIN.out k HREP.out
      | true =>
        have hv9 := appB_ver (s := s) (b := xs[k]) (by rw [← HT.out])
        rw [← HT.out] at hv9
        dsimp only at hv9
        have HV9 := hid hv9
        clear hv9
        have HREP := hid (show repF t (k + 1) (xs.drop (k + 1)) = repB xs from by rw [← HRP.out, HDR.out, repF, if_pos (by rw [← HT.out]), ← HT.out])
        have hS9 := hS.ext (xb.trans x6)
        obtain ⟨⟨g0, g1, g2⟩, gf⟩ := hS9.cells
        have hn0 : (W6).cell? ⟨l6, 0, none⟩ = some (.int .i64 t.version) := HBX6.out.1
        have hn1 : (W6).cell? ⟨l6, 1, none⟩ = some (.slice An t.records.length cn) := HBX6.out.2.1
        have hn2 : (W6).cell? ⟨l6, 2, none⟩ = some (.slice Am t.verdicts.length cm) := HBX6.out.2.2
        have HFIN := hid (show Sx ((((W6).setCell ⟨gx, 0, none⟩ (.int .i64 t.version)).setCell ⟨gx, 1, none⟩ (.slice An t.records.length cn)).setCell ⟨gx, 2, none⟩ (.slice Am t.verdicts.length cm)) W1.heap.size gx t.version (.slice An t.records.length cn) (.slice Am t.verdicts.length cm) t.records t.verdicts Fn ∧ Ext W1 ((((W6).setCell ⟨gx, 0, none⟩ (.int .i64 t.version)).setCell ⟨gx, 1, none⟩ (.slice An t.records.length cn)).setCell ⟨gx, 2, none⟩ (.slice Am t.verdicts.length cm)) from by
          obtain ⟨n1, n2⟩ := HR6.out.r.below (g := gx) HGX.out
          obtain ⟨_, n3⟩ := HR6.out.v.below (g := gx) HGX.out
          exact ⟨⟨Blk.store3 hS9.b _ _ _, (HR6.out.kp (Kp.store3 gx 0 _ _ _ _) n1 n2 n3).low HB6.out, n1, n2, n3, hS9.hb⟩, Ext.store3 (hx.trans (xb.trans x6)) hS9.hb _ _ _⟩)
        clear hS9
        go_wp2
        go_roundw
        case rel => exact ⟨k + 1, t, _, _, Fn, by omega, by go_num, HFIN.out.1, HFIN.out.2, HREP.out, HV9.out.2, by rw [HV9.out.1, HVER.out]; omega⟩
        case measure => simp [intOf]; omega
    · have hk2 : k = xs.length := by omega
      have HREP := hid (show (s, xs.length) = repB xs from by rw [← HRP.out, List.drop_of_length_le (by omega), hk2]; rfl)
      have hx9 := hx
      have hS9 := hS
      obtain ⟨⟨g0, g1, g2⟩, gf⟩ := hS9.cells
      have bz := HZ.out _ hx9
      obtain ⟨⟨z0, z1, z2⟩, zf⟩ := (⟨⟨bz.cells.1 0, bz.cells.1 1, bz.cells.1 2⟩, bz.cells.2⟩ : (_ ∧ _ ∧ _) ∧ _)
      have b9 := Blk.store3 bz (.int .i64 s.version) (.slice Ar s.records.length cr) (.slice Av s.verdicts.length cv)
      have r0 := b9.cells.1 0
      have r1 := b9.cells.1 1
      have r2 := b9.cells.1 2
      have HFIN := hid (show ∀ n : Nat, (s, n) = repB xs → RepOut w (.returned (.tuple #[.agg #[.int .i64 s.version, .slice Ar s.records.length cr, .slice Av s.verdicts.length cv], .int .i64 n])) (((wr.setCell ⟨w.heap.size, 0, none⟩ (.int .i64 s.version)).setCell ⟨w.heap.size, 1, none⟩ (.slice Ar s.records.length cr)).setCell ⟨w.heap.size, 2, none⟩ (.slice Av s.verdicts.length cv)) (repB xs) from by
        intro n hn
        have hsz := HS.out
        obtain ⟨n1, n2⟩ := hS9.r.r.below (g := w.heap.size) (by omega)
        obtain ⟨_, n3⟩ := hS9.r.v.below (g := w.heap.size) (by omega)
        rw [← hn]
        exact ⟨_, _, _, rfl, (hS9.r.kp (Kp.store3 w.heap.size 0 _ _ _ _) n1 n2 n3).low (by omega), HI64.out, Ext.store3 (HX.out.trans hx9) (by omega) _ _ _⟩)
      clear b9 bz hS9
      go_wp2
      refine bodyPost_ret (v := .tuple #[.agg #[.int .i64 s.version, .slice Ar s.records.length cr, .slice Av s.verdicts.length cv], .int .i64 (xs.length : Nat)]) (by simp [results, Tryz.results20, go_sem, r0, r1, r2]) rfl ?_
      exact HFIN.out _ HREP.out

end Go.Proofs.YtfcbapaojoecgaaGreat

namespace Go.Proofs.YtfcbapaojoecgaaGreat
open Go.RowKit

def batSum (xs : List Batch) : Nat := (xs.map fun b => (lstMk opMk).cnt b.ops).sum

set_option maxHeartbeats 1000000 in
set_option maxRecDepth 20000 in
theorem markBatchS_c (v : Value) (xs : List Batch) (F : List Nat) (k : Int) (w : World) (h : OwnSl batchO w v xs F) (hN : F.Nodup) (h0 : 0 ≤ k) (hb : k + (batSum xs : Nat) ≤ 1152921504606846976) :
    Calls Tryz.prog 22 #[v, .int .i64 k] w fun e w2 => ∃ K, e = .returned (.int .i64 K) ∧ 0 ≤ K ∧ Chg F w w2 := by
  obtain ⟨A, cap, rfl, hm⟩ := h.form
  go_enter Tryz.func22, Tryz.ntmps22
  go_wp2
  go_loopw [1, 5] (fun l i wr => ∃ (j : Nat) (K : Int) (ys : List Batch), j ≤ xs.length ∧ i = .int .i64 j ∧ l = .int .i64 K ∧ 0 ≤ K ∧ K + (batSum (ys.drop j) : Nat) ≤ k + (batSum xs : Nat) ∧ OwnSl batchO wr (.slice A xs.length cap) ys F ∧ Hid (ys.length = xs.length) ∧ Chg F w wr) (fun _ i _ => xs.length - (intOf i).toNat)
  case atStart => exact ⟨0, k, xs, Nat.zero_le _, rfl, rfl, h0, Int.le_refl _, h, hid rfl, .refl _ _⟩
  case round =>
    obtain ⟨j, K, ys, hj, rfl, rfl, hK0, hK1, ho, hy, hc⟩ := hrel
    by_cases hlt : j < xs.length
    · have hjy : j < ys.length := by rw [hy.out]; exact hlt
      have hd : batSum (ys.drop j) = (lstMk opMk).cnt ys[j].ops + batSum (ys.drop (j + 1)) := by
        unfold batSum; rw [List.drop_eq_getElem_cons hjy, List.map_cons, List.sum_cons]
      rw [hd] at hK1
      clear hd
      obtain ⟨g, off, cap2, c, F1, e, hg, hsub, hng, hN1, ⟨m, rfl, hok, hm3⟩, _, hcl, hf, hin, _⟩ := ho.elem hN hjy
      injection e with e1 e2 e3
      subst e1
      clear e2 e3
      have h1 : batchO.n = 1 := rfl
      have c0 : wr.cell? ⟨g, off + j, none⟩ = some m := by
        have := hcl 0 (by rw [h1]; decide)
        rw [h1, Nat.mul_one, Nat.add_zero] at this
        exact this
      obtain ⟨A3, cap3, e3, _⟩ := hm3.form
      subst e3
      have hlt3 : ∀ b ∈ F, b < wr.heap.size := ho.lt
      have HIN := hid hin
      have HY := hid hy
      obtain ⟨cn, hcn⟩ : ∃ n, n = (lstMk opMk).cnt ys[j].ops := ⟨_, rfl⟩
      rw [← hcn] at hK1
      have HCN := hid hcn
      clear hin hcl hf hcn
      go_wp2_with fail
      refine (markOpS_c _ ys[j].ops F1 K _ hm3 hN1 hK0 (by rw [← HCN.out]; omega)).mono ?_
      rintro e w2 ⟨zs, rfl, hz, _, hzc⟩
      have HO4 := hid (HIN.out w2 ⟨zs⟩ (fun b hb hn => hzc.block b (hlt3 b hb) hn) ⟨_, rfl, trivial, hz⟩)
      have HC4 := hid (hc.trans (hzc.mono hsub))
      have HL := hid (show batSum ((ys.set j ⟨zs⟩).drop (j + 1)) = batSum (ys.drop (j + 1)) by rw [List.drop_set_of_lt (by omega)])
      rw [← HCN.out]
      clear hz hzc
      go_wp2
      go_roundw
      case rel => exact ⟨j + 1, _, _, by omega, by go_num, rfl, by omega, by rw [HL.out]; omega, HO4.out, hid (by rw [List.length_set]; exact HY.out), HC4.out⟩
      case measure => simp [intOf]; omega
    · go_wp2
      go_ret
      exact ⟨K, rfl, hK0, hc⟩
end Go.Proofs.YtfcbapaojoecgaaGreat

namespace Go.Proofs.YtfcbapaojoecgaaGreat
open Go.RowKit


set_option maxHeartbeats 8000000 in
set_option maxRecDepth 20000 in
theorem spec_ReplayBatches (v : Value) (xs : List Batch) (w : World) (h : Sl batchR w v xs) (hl : xs.length ≤ 1048576) :
    Calls Tryz.prog 18 #[v] w (RepOut w · · (repB xs)) := by
  obtain ⟨A, cap, rfl, hm⟩ := h.form
  obtain ⟨W1, hW1⟩ : ∃ W1, W1 = w.alloc (.cells #[.int .i64 0, .slice none 0 0, .slice none 0 0] 34) := ⟨_, rfl⟩
  have xw1 : Ext w W1 := by rw [hW1]; exact (Ext.refl w).alloc _
  have hsz : W1.heap.size = w.heap.size + 1 := by rw [hW1]; simp
  have bZ : Blk W1 w.heap.size 34 [.int .i64 0, .slice none 0 0, .slice none 0 0] := by rw [hW1]; exact Blk.new w 34 #[.int .i64 0, .slice none 0 0, .slice none 0 0]
  have HZ := hid (show ∀ W, Ext W1 W → Blk W w.heap.size 34 [.int .i64 0, .slice none 0 0, .slice none 0 0] from fun W y => bZ.ext y)
  have HXS := hid (show ∀ W, Ext W1 W → Sl batchR W (.slice A xs.length cap) xs from fun W y => (h.mono xw1).mono y)
  have hS0 : Sx (W1.alloc (.cells #[.int .i64 0, .slice none 0 0, .slice none 0 0] 34)) W1.heap.size W1.heap.size 0 (.slice none 0 0) (.slice none 0 0) [] [] [] := Sx.new (Rows2.mk (Bld.nil W1 W1.heap.size 72) (Bld.nil W1 W1.heap.size 74) (fun _ h => by cases h)) (Nat.le_refl _)
  have HS := hid hsz
  have HX := hid xw1
  clear h bZ
  go_enter Tryz.func18, Tryz.ntmps18
  go_wp2_with fail
  rw [← hW1]
  clear hW1
  rw [← hsz]
  clear hsz xw1
  obtain ⟨gx, hgx⟩ : ∃ gx, gx = W1.heap.size := ⟨_, rfl⟩
  rw [← hgx]
  have hS1 : Sx (W1.alloc (.cells #[.int .i64 0, .slice none 0 0, .slice none 0 0] 34)) W1.heap.size gx 0 (.slice none 0 0) (.slice none 0 0) [] [] [] := by rw [hgx]; exact hS0
  clear hS0 hgx
  go_loopw [5] (fun i wr => ∃ (k : Nat) (s : Store) (rv vv : Value) (F : List Nat), k ≤ xs.length ∧ i = .int .i64 k ∧ Sx wr W1.heap.size gx s.version rv vv s.records s.verdicts F ∧ Ext W1 wr ∧ repF s k (xs.drop k) = repB xs ∧ okSto s = true ∧ s.version = (k : Int)) (fun i _ => xs.length - (intOf i).toNat)
  case atStart => exact ⟨0, zeroSto, _, _, _, Nat.zero_le _, rfl, hS1, (Ext.refl _).alloc _, rfl, zeroSto_ok, rfl⟩
  case round =>
    clear hS1
    obtain ⟨k, s, rv, vv, F, hk, rfl, hS, hx, hrep, hok, hver⟩ := hrel
    obtain ⟨Ar, cr, er, _⟩ := hS.r.r.sl.form
    subst er
    obtain ⟨Av, cv, ev, _⟩ := hS.r.v.sl.form
    subst ev
    have HRP := hid hrep
    have HVER := hid hver
    have HI64 := hid (show I64 s.version from by rw [hver]; exact ⟨by omega, by omega⟩)
    have HMS := hid (okSto_ms hok)
    clear hrep hver
    by_cases hlt : k < xs.length
    · have HDR := hid (List.drop_eq_getElem_cons hlt)
      obtain ⟨b1, off, A2, cap2, eA, _, hsl, c0⟩ := (HXS.out _ hx).batch hlt
      subst eA
      have HSL := hid hsl
      have HK := hid (show ∀ W, Ext wr W → (W.cell? ⟨gx, 0, none⟩ = some (.int .i64 s.version) ∧ W.cell? ⟨gx, 1, none⟩ = some (.slice Ar s.records.length cr) ∧ W.cell? ⟨gx, 2, none⟩ = some (.slice Av s.verdicts.length cv)) ∧ W.cell? ⟨b1, off + k, none⟩ = some (.slice A2 xs[k].ops.length cap2) from fun W y => ⟨(hS.ext y).cells.1, y.cell c0⟩)
      have HBA := hid (show ∀ W, Ext wr W → BatAt W (.agg #[.slice A2 xs[k].ops.length cap2]) xs[k] from fun W y => ⟨_, rfl, trivial, HSL.out.mono y⟩)
      have HSA := hid (show ∀ W, Ext wr W → StoAt W (.agg #[.int .i64 s.version, .slice Ar s.records.length cr, .slice Av s.verdicts.length cv]) s from fun W y => (hS.ext y).at_ HI64.out)
      clear hsl c0
      go_wp2_with fail
      go_region_held3 (fun w' => (w'.cell? ⟨gx, 0, none⟩ = some (.int .i64 s.version) ∧ w'.cell? ⟨gx, 1, none⟩ = some (.slice Ar s.records.length cr) ∧ w'.cell? ⟨gx, 2, none⟩ = some (.slice Av s.verdicts.length cv)) ∧ w'.cell? ⟨b1, off + k, none⟩ = some (.slice A2 xs[k].ops.length cap2))
        (exact HK.out _ (by repeat (first | with_reducible exact Ext.refl _ | with_reducible assumption | with_reducible refine Ext.drew ?_ | with_reducible refine Ext.alloc ?_ _ | (refine Ext.setCell ?_ (by first | (simp; done) | omega | (simp; omega)) _) | with_reducible refine Ext.trans ?_ (by with_reducible assumption))))
        (first | (go_at_call 8; refine (spec_ApplyBatch _ _ s xs[k] _ ?ha ?hb HMS.out.1 HMS.out.2).mono ?_; (case ha => exact HSA.out _ (by repeat (first | with_reducible exact Ext.refl _ | with_reducible assumption | with_reducible refine Ext.drew ?_ | with_reducible refine Ext.alloc ?_ _ | (refine Ext.setCell ?_ (by first | (simp; done) | omega | (simp; omega)) _) | with_reducible refine Ext.trans ?_ (by with_reducible assumption)))); (case hb => exact HBA.out _ (by repeat (first | with_reducible exact Ext.refl _ | with_reducible assumption | with_reducible refine Ext.drew ?_ | with_reducible refine Ext.alloc ?_ _ | (refine Ext.setCell ?_ (by first | (simp; done) | omega | (simp; omega)) _) | with_reducible refine Ext.trans ?_ (by with_reducible assumption)))); rintro e w5 ⟨rn, vn, Fn, rfl, R, hI5, x5⟩; obtain ⟨t, ht⟩ : ∃ t, t = appB s xs[k] := ⟨_, rfl⟩; rw [← ht] at R hI5 ⊢; have HT := hid ht; clear ht; obtain ⟨t, tb⟩ := t; dsimp only at R hI5 ⊢; obtain ⟨An, cn, en, _⟩ := R.r.sl.form; subst en; obtain ⟨Am, cm, em, _⟩ := R.v.sl.form; subst em; have s5 := x5.size; (try simp at s5); (first | (refine (fun (x8 : Ext (wr.alloc (.cells #[.int .i64 0, .slice none 0 0, .slice none 0 0] 34)) w5) => ?_) ?_; rotate_left; (focus ((repeat (first | with_reducible exact Ext.refl _ | with_reducible assumption | with_reducible refine Ext.drew ?_ | with_reducible refine Ext.alloc ?_ _ | with_reducible refine Ext.trans ?_ (by with_reducible assumption))); done)); have b8 := (Blk.new wr 34 #[.int .i64 0, .slice none 0 0, .slice none 0 0]).ext x8; have c80 : w5.cell? ⟨wr.heap.size, 0, none⟩ = some (.int .i64 0) := b8.cells.1 0; have c81 : w5.cell? ⟨wr.heap.size, 1, none⟩ = some (.slice none 0 0) := b8.cells.1 1; have c82 : w5.cell? ⟨wr.heap.size, 2, none⟩ = some (.slice none 0 0) := b8.cells.1 2; have f8 : ∀ i, w5.frozen? ⟨wr.heap.size, i, none⟩ = false := b8.cells.2) | skip)))
      all_goals
        first
          | (have hALL : ∃ W6 l6, W6 = (((w5.setCell ⟨wr.heap.size, 0, none⟩ (.int .i64 t.version)).setCell ⟨wr.heap.size, 1, none⟩ (.slice An t.records.length cn)).setCell ⟨wr.heap.size, 2, none⟩ (.slice Am t.verdicts.length cm)) ∧ l6 = wr.heap.size ∧ Ext wr W6 ∧ Rows2 W6 wr.heap.size (.slice An t.records.length cn) (.slice Am t.verdicts.length cm) t.records t.verdicts Fn ∧ W6.cell? ⟨l6, 0, none⟩ = some (.int .i64 t.version) ∧ W6.cell? ⟨l6, 1, none⟩ = some (.slice An t.records.length cn) ∧ W6.cell? ⟨l6, 2, none⟩ = some (.slice Am t.verdicts.length cm) := by
               obtain ⟨n1, n2⟩ := R.r.below (g := wr.heap.size) (by simp)
               obtain ⟨_, n3⟩ := R.v.below (g := wr.heap.size) (by simp)
               have b9 := Blk.store3 b8 (.int .i64 t.version) (.slice An t.records.length cn) (.slice Am t.verdicts.length cm)
               exact ⟨_, _, rfl, rfl, Ext.store3 (by repeat (first | with_reducible exact Ext.refl _ | with_reducible assumption | with_reducible refine Ext.drew ?_ | with_reducible refine Ext.alloc ?_ _ | (refine Ext.setCell ?_ (by first | (simp; done) | omega | (simp; omega)) _) | with_reducible refine Ext.trans ?_ (by with_reducible assumption))) (Nat.le_refl _) _ _ _, (R.kp (Kp.store3 wr.heap.size 0 _ _ _ _) n1 n2 n3).low (by simp), b9.cells.1 0, b9.cells.1 1, b9.cells.1 2⟩
             obtain ⟨W6, l6, hW6, hl6, x6, R6, k60, k61, k62⟩ := hALL
             rw [← hW6, ← hl6])
          | (have hALL : ∃ W6 l6, W6 = (w5.alloc (.cells #[.int .i64 t.version, .slice An t.records.length cn, .slice Am t.verdicts.length cm] 34)) ∧ l6 = w5.heap.size ∧ Ext wr W6 ∧ Rows2 W6 wr.heap.size (.slice An t.records.length cn) (.slice Am t.verdicts.length cm) t.records t.verdicts Fn ∧ W6.cell? ⟨l6, 0, none⟩ = some (.int .i64 t.version) ∧ W6.cell? ⟨l6, 1, none⟩ = some (.slice An t.records.length cn) ∧ W6.cell? ⟨l6, 2, none⟩ = some (.slice Am t.verdicts.length cm) := by
               have b9 := Blk.new w5 34 #[.int .i64 t.version, .slice An t.records.length cn, .slice Am t.verdicts.length cm]
               exact ⟨_, _, rfl, rfl, Ext.alloc (by repeat (first | with_reducible exact Ext.refl _ | with_reducible assumption | with_reducible refine Ext.drew ?_ | with_reducible refine Ext.alloc ?_ _ | (refine Ext.setCell ?_ (by first | (simp; done) | omega | (simp; omega)) _) | with_reducible refine Ext.trans ?_ (by with_reducible assumption))) _, (R.ext ((Ext.refl w5).alloc _)).low (by first | exact Nat.le_refl _ | simp), b9.cells.1 0, b9.cells.1 1, b9.cells.1 2⟩
             obtain ⟨W6, l6, hW6, hl6, x6, R6, k60, k61, k62⟩ := hALL
             rw [← hW6, ← hl6])
        clear hW6 hl6 R
        have HR6 := hid R6
        have HGX := hid hS.lt
        have HB6 := hid hx.size
        have HBX6 := hid (And.intro k60 (And.intro k61 k62))
        clear R6 k60 k61 k62
        cases tb with
        | false =>
          have HREP := hid (show (s, k) = repB xs from by rw [← HRP.out, HDR.out, repF, if_neg (by rw [← HT.out]; simp)])
          have hx9 : Ext W1 W6 := hx.trans (x6)
          have hS9 := hS.ext (x6)
          obtain ⟨⟨g0, g1, g2⟩, gf⟩ := hS9.cells
          have bz := HZ.out _ hx9
          obtain ⟨⟨z0, z1, z2⟩, zf⟩ := (⟨⟨bz.cells.1 0, bz.cells.1 1, bz.cells.1 2⟩, bz.cells.2⟩ : (_ ∧ _ ∧ _) ∧ _)
          have b9 := Blk.store3 bz (.int .i64 s.version) (.slice Ar s.records.length cr) (.slice Av s.verdicts.length cv)
          have r0 := b9.cells.1 0
          have r1 := b9.cells.1 1
          have r2 := b9.cells.1 2
          have HFIN := hid (show ∀ n : Nat, (s, n) = repB xs → RepOut w (.returned (.tuple #[.agg #[.int .i64 s.version, .slice Ar s.records.length cr, .slice Av s.verdicts.length cv], .int .i64 n])) (((W6.setCell ⟨w.heap.size, 0, none⟩ (.int .i64 s.version)).setCell ⟨w.heap.size, 1, none⟩ (.slice Ar s.records.length cr)).setCell ⟨w.heap.size, 2, none⟩ (.slice Av s.verdicts.length cv)) (repB xs) from by
            intro n hn
            have hsz := HS.out
            obtain ⟨n1, n2⟩ := hS9.r.r.below (g := w.heap.size) (by omega)
            obtain ⟨_, n3⟩ := hS9.r.v.below (g := w.heap.size) (by omega)
            rw [← hn]
            exact ⟨_, _, _, rfl, (hS9.r.kp (Kp.store3 w.heap.size 0 _ _ _ _) n1 n2 n3).low (by omega), HI64.out, Ext.store3 (HX.out.trans hx9) (by omega) _ _ _⟩)
          clear b9 bz hS9
          go_wp2
          refine bodyPost_ret (v := .tuple #[.agg #[.int .i64 s.version, .slice Ar s.records.length cr, .slice Av s.verdicts.length cv], .int .i64 (k : Nat)]) (by simp [results, Tryz.results18, go_sem, r0, r1, r2]) rfl ?_
          exact HFIN.out k HREP.out
        | true =>
          have hv9 := appB_ver (s := s) (b := xs[k]) (by rw [← HT.out])
          rw [← HT.out] at hv9
          dsimp only at hv9
          have HV9 := hid hv9
          clear hv9
          have HREP := hid (show repF t (k + 1) (xs.drop (k + 1)) = repB xs from by rw [← HRP.out, HDR.out, repF, if_pos (by rw [← HT.out]), ← HT.out])
          have hS9 := hS.ext (x6)
          obtain ⟨⟨g0, g1, g2⟩, gf⟩ := hS9.cells
          have hn0 : (W6).cell? ⟨l6, 0, none⟩ = some (.int .i64 t.version) := HBX6.out.1
          have hn1 : (W6).cell? ⟨l6, 1, none⟩ = some (.slice An t.records.length cn) := HBX6.out.2.1
          have hn2 : (W6).cell? ⟨l6, 2, none⟩ = some (.slice Am t.verdicts.length cm) := HBX6.out.2.2
          have HFIN := hid (show Sx ((((W6).setCell ⟨gx, 0, none⟩ (.int .i64 t.version)).setCell ⟨gx, 1, none⟩ (.slice An t.records.length cn)).setCell ⟨gx, 2, none⟩ (.slice Am t.verdicts.length cm)) W1.heap.size gx t.version (.slice An t.records.length cn) (.slice Am t.verdicts.length cm) t.records t.verdicts Fn ∧ Ext W1 ((((W6).setCell ⟨gx, 0, none⟩ (.int .i64 t.version)).setCell ⟨gx, 1, none⟩ (.slice An t.records.length cn)).setCell ⟨gx, 2, none⟩ (.slice Am t.verdicts.length cm)) from by
            obtain ⟨n1, n2⟩ := HR6.out.r.below (g := gx) HGX.out
            obtain ⟨_, n3⟩ := HR6.out.v.below (g := gx) HGX.out
            exact ⟨⟨Blk.store3 hS9.b _ _ _, (HR6.out.kp (Kp.store3 gx 0 _ _ _ _) n1 n2 n3).low HB6.out, n1, n2, n3, hS9.hb⟩, Ext.store3 (hx.trans (x6)) hS9.hb _ _ _⟩)
          clear hS9
          go_wp2
          go_roundw
          case rel => exact ⟨k + 1, t, _, _, Fn, by omega, by go_num, HFIN.out.1, HFIN.out.2, HREP.out, HV9.out.2, by rw [HV9.out.1, HVER.out]; omega⟩
          case measure => simp [intOf]; omega
    · have hk2 : k = xs.length := by omega
      have HREP := hid (show (s, xs.length) = repB xs from by rw [← HRP.out, List.drop_of_length_le (by omega), hk2]; rfl)
      have hx9 := hx
      have hS9 := hS
      obtain ⟨⟨g0, g1, g2⟩, gf⟩ := hS9.cells
      have bz := HZ.out _ hx9
      obtain ⟨⟨z0, z1, z2⟩, zf⟩ := (⟨⟨bz.cells.1 0, bz.cells.1 1, bz.cells.1 2⟩, bz.cells.2⟩ : (_ ∧ _ ∧ _) ∧ _)
      have b9 := Blk.store3 bz (.int .i64 s.version) (.slice Ar s.records.length cr) (.slice Av s.verdicts.length cv)
      have r0 := b9.cells.1 0
      have r1 := b9.cells.1 1
      have r2 := b9.cells.1 2
      have HFIN := hid (show ∀ n : Nat, (s, n) = repB xs → RepOut w (.returned (.tuple #[.agg #[.int .i64 s.version, .slice Ar s.records.length cr, .slice Av s.verdicts.length cv], .int .i64 n])) (((wr.setCell ⟨w.heap.size, 0, none⟩ (.int .i64 s.version)).setCell ⟨w.heap.size, 1, none⟩ (.slice Ar s.records.length cr)).setCell ⟨w.heap.size, 2, none⟩ (.slice Av s.verdicts.length cv)) (repB xs) from by
        intro n hn
        have hsz := HS.out
        obtain ⟨n1, n2⟩ := hS9.r.r.below (g := w.heap.size) (by omega)
        obtain ⟨_, n3⟩ := hS9.r.v.below (g := w.heap.size) (by omega)
        rw [← hn]
        exact ⟨_, _, _, rfl, (hS9.r.kp (Kp.store3 w.heap.size 0 _ _ _ _) n1 n2 n3).low (by omega), HI64.out, Ext.store3 (HX.out.trans hx9) (by omega) _ _ _⟩)
      clear b9 bz hS9
      go_wp2
      refine bodyPost_ret (v := .tuple #[.agg #[.int .i64 s.version, .slice Ar s.records.length cr, .slice Av s.verdicts.length cv], .int .i64 (xs.length : Nat)]) (by simp [results, Tryz.results18, go_sem, r0, r1, r2]) rfl ?_
      exact HFIN.out _ HREP.out

end Go.Proofs.YtfcbapaojoecgaaGreat
