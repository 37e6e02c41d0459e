/-
  SEVERAL SMALL TEXTS LAID TOGETHER: StoL, BinR, AppBc, Put, StX, AppQ, AppBd, StoS, CpSto, AppBi, StoM.
-/
import Derived.Test.YtfcbapaojoecgaaGreatMgEndAppB8
import Derived.Test.YtfcbapaojoecgaaGreatMgEndAppB13
import Derived.Test.YtfcbapaojoecgaaGreatMgEndAppB5
import Derived.Deep.LoopGhost
import Derived.Test.YtfcbapaojoecgaaGreatMgEndAppB9
import Derived.Test.YtfcbapaojoecgaaGreatMgEndAppB10

namespace Go.Proofs.YtfcbapaojoecgaaGreat
open Go.RowKit

/-- by identifier, each once -/
def RAsc (xs : List Record) : Prop := xs.Pairwise fun x y => recID x < recID y
theorem recsOK_iff {xs : List Record} : recsOK xs = true ↔ (∀ r ∈ xs, okRec r = true) ∧ RAsc xs := by
  unfold recsOK
  rw [List.all_eq_true]
  constructor
  · intro h
    have hk : ∀ k (hk : k < xs.length), okRec xs[k] = true ∧ (k = 0 ∨ recID (rAt xs (k - 1)) < recID xs[k]) := fun k hk => by
      have h1 := h k (List.mem_range.2 hk)
      rw [recOk_eq hk, Bool.and_eq_true, Bool.or_eq_true, decide_eq_true_eq, beq_iff_eq] at h1
      exact h1
    refine ⟨fun r hr => ?_, ?_⟩
    · obtain ⟨k, hk2, rfl⟩ := List.getElem_of_mem hr
      exact (hk k hk2).1
    · have step : ∀ k (h2 : k + 1 < xs.length), recID xs[k] < recID xs[k + 1] := fun k h2 => by
        rcases (hk (k + 1) h2).2 with h3 | h3
        · omega
        · rw [show k + 1 - 1 = k from rfl, rAt_at (by omega)] at h3; exact h3
      unfold RAsc
      rw [List.pairwise_iff_getElem]
      intro i j hi hj hij
      induction j with
      | zero => omega
      | succ j ih =>
        by_cases e : i = j
        · subst e; exact step i hj
        · exact Int.lt_trans (ih (by omega) (by omega)) (step j hj)
  · rintro ⟨h1, h2⟩ k hk
    have hk := List.mem_range.1 hk
    rw [recOk_eq hk, Bool.and_eq_true, Bool.or_eq_true, decide_eq_true_eq, beq_iff_eq]
    refine ⟨h1 _ (List.getElem_mem hk), ?_⟩
    cases k with
    | zero => exact .inl rfl
    | succ k =>
      right
      rw [show k + 1 - 1 = k from rfl, rAt_at (by omega)]
      exact List.pairwise_iff_getElem.1 h2 k (k + 1) (by omega) hk (by omega)

theorem okH_of {r : Record} (h : okRec r = true) : okH r = true := by
  unfold okRec at h
  simp only [Bool.and_eq_true] at h
  exact h.1.1
theorem okH_gone {r : Record} (h : goneR r = true) : okH r = true := by
  unfold goneR at h
  simp only [Bool.and_eq_true] at h
  exact h.1
theorem okH_bd {r : Record} (h : okH r = true) : (0 ≤ r.source ∧ r.source ≤ 3) ∧ (1 ≤ r.key ∧ r.key ≤ 99) ∧ 1 ≤ r.version ∧ r.version ≤ 999 := by
  unfold okH inB at h
  simp only [Bool.and_eq_true, decide_eq_true_eq] at h
  omega
theorem recID_ok {r : Record} (h : okH r = true) : recID r = 100 * r.source + r.key := by
  obtain ⟨h1, h2, _⟩ := okH_bd h
  unfold recID wrap64
  omega
theorem recID_same {x y : Record} (hx : okH x = true) (hy : okH y = true) : recID x = recID y ↔ x.source = y.source ∧ x.key = y.key := by
  rw [recID_ok hx, recID_ok hy]
  have := okH_bd hx
  have := okH_bd hy
  omega
theorem recID_bd {r : Record} (h : okH r = true) : 1 ≤ recID r ∧ recID r ≤ 399 := by
  rw [recID_ok h]
  have := okH_bd h
  omega

/-- how many stand ahead of an identifier -/
def cntR (xs : List Record) (id : Int) : Nat := (xs.takeWhile fun x => decide (recID x < id)).length
theorem cntR_le (xs : List Record) (id : Int) : cntR xs id ≤ xs.length := (List.takeWhile_prefix _).length_le
theorem cntR_nil (id : Int) : cntR [] id = 0 := rfl
theorem cntR_lo {x : Record} {xs : List Record} {id : Int} (h : recID x < id) : cntR (x :: xs) id = cntR xs id + 1 := by unfold cntR; simp [h]
theorem cntR_hi {x : Record} {xs : List Record} {id : Int} (h : ¬ recID x < id) : cntR (x :: xs) id = 0 := by unfold cntR; simp [h]
theorem rasc_side : ∀ {xs : List Record} (_ : RAsc xs) {id : Int} {k : Nat} (hk : k < xs.length), recID xs[k] < id ↔ k < cntR xs id
  | x :: xs, h, id, k, hk => by
    have hp := List.pairwise_cons.1 h
    by_cases hx : recID x < id
    · rw [cntR_lo hx]
      cases k with
      | zero => simpa using hx
      | succ k =>
        have := rasc_side hp.2 (id := id) (k := k) (by simpa using hk)
        simp only [List.getElem_cons_succ]
        omega
    · rw [cntR_hi hx]
      cases k with
      | zero => simpa using hx
      | succ k =>
        have hk' : k < xs.length := by simpa using hk
        have := hp.1 xs[k] (List.getElem_mem hk')
        simp only [List.getElem_cons_succ]
        omega

/-- is a newer than b, as the reference asks -/
noncomputable def newR (a b : Record) : Bool := if a.version = b.version then decide (0 < cmpR a b) else decide (b.version < a.version)
/-- a record put among records -/
noncomputable def putR : List Record → Record → List Record
  | [], r => [r]
  | x :: xs, r => if recID x < recID r then x :: putR xs r else if recID x = recID r then (if cmpR x r < 0 then r else x) :: xs else r :: x :: xs
/-- by place -/
theorem putR_new : ∀ {xs : List Record} {r : Record} (_ : RAsc xs), (∀ h : cntR xs (recID r) < xs.length, ¬ recID xs[cntR xs (recID r)] = recID r) → putR xs r = xs.take (cntR xs (recID r)) ++ r :: xs.drop (cntR xs (recID r))
  | [], r, _, _ => by simp [putR, cntR_nil]
  | x :: xs, r, h, hn => by
    have hp := List.pairwise_cons.1 h
    unfold putR
    by_cases hx : recID x < recID r
    · rw [if_pos hx, cntR_lo hx]
      simp only [cntR_lo hx, List.length_cons, List.getElem_cons_succ] at hn
      simp only [List.take_succ_cons, List.drop_succ_cons, List.cons_append]
      rw [putR_new hp.2 fun h9 => hn (by omega)]
    · simp only [cntR_hi hx, List.getElem_cons_zero] at hn
      rw [if_neg hx, if_neg (hn (by simp)), cntR_hi hx]
      rfl
theorem putR_old : ∀ {xs : List Record} {r : Record} (_ : RAsc xs) (h : cntR xs (recID r) < xs.length), recID xs[cntR xs (recID r)] = recID r →
    putR xs r = if cmpR xs[cntR xs (recID r)] r < 0 then xs.set (cntR xs (recID r)) r else xs
  | x :: xs, r, h, hl, he => by
    have hp := List.pairwise_cons.1 h
    unfold putR
    by_cases hx : recID x < recID r
    · rw [if_pos hx]
      simp only [cntR_lo hx, List.length_cons, List.getElem_cons_succ] at hl he
      rw [putR_old hp.2 (by omega) he]
      simp only [cntR_lo hx, List.getElem_cons_succ, List.set_cons_succ]
      split <;> rfl
    · rw [if_neg hx]
      simp only [cntR_hi hx, List.getElem_cons_zero] at he
      rw [if_pos he]
      simp only [cntR_hi hx, List.getElem_cons_zero, List.set_cons_zero]
      split <;> rfl
theorem putR_mem : ∀ {xs : List Record} {r y : Record}, y ∈ putR xs r → y = r ∨ y ∈ xs
  | [], r, y, h => by simpa [putR] using h
  | x :: xs, r, y, h => by
    unfold putR at h
    split at h
    · rcases List.mem_cons.1 h with rfl | h
      · simp
      · rcases putR_mem h with h | h
        · exact .inl h
        · exact .inr (List.mem_cons_of_mem _ h)
    · split at h
      · rcases List.mem_cons.1 h with h | h
        · split at h
          · exact .inl h
          · exact .inr (h ▸ List.mem_cons_self ..)
        · exact .inr (List.mem_cons_of_mem _ h)
      · exact List.mem_cons.1 h
theorem putR_len : ∀ (xs : List Record) (r : Record), (putR xs r).length ≤ xs.length + 1
  | [], r => by simp [putR]
  | x :: xs, r => by
    have := putR_len xs r
    unfold putR
    split
    · simp only [List.length_cons]; omega
    · split <;> simp only [List.length_cons] <;> omega
theorem putR_asc : ∀ {xs : List Record} {r : Record}, RAsc xs → RAsc (putR xs r)
  | [], r, _ => by simp [putR, RAsc]
  | x :: xs, r, h => by
    have hp := List.pairwise_cons.1 h
    unfold putR
    by_cases hx : recID x < recID r
    · rw [if_pos hx]
      refine List.pairwise_cons.2 ⟨fun y hy => ?_, putR_asc hp.2⟩
      rcases putR_mem hy with rfl | hy
      · exact hx
      · exact hp.1 y hy
    · rw [if_neg hx]
      by_cases he : recID x = recID r
      · rw [if_pos he]
        refine List.pairwise_cons.2 ⟨fun y hy => ?_, hp.2⟩
        split
        · rw [← he]; exact hp.1 y hy
        · exact hp.1 y hy
      · rw [if_neg he]
        refine List.pairwise_cons.2 ⟨fun y hy => ?_, h⟩
        rcases List.mem_cons.1 hy with rfl | hy
        · omega
        · have := hp.1 y hy; omega

/-- as the reference walks -/
noncomputable def putSt (r : Record) (p : List Record × Bool) (x : Record) : List Record × Bool :=
  if p.2 = false ∧ recID r < recID x then (p.1 ++ [r] ++ [x], true)
  else if recID x = recID r then (if newR r x = true then (p.1 ++ [r], true) else (p.1 ++ [x], true))
  else (p.1 ++ [x], p.2)
noncomputable def putF (xs : List Record) (r : Record) : List Record := if (xs.foldl (putSt r) ([], false)).2 = true then (xs.foldl (putSt r) ([], false)).1 else (xs.foldl (putSt r) ([], false)).1 ++ [r]
theorem putSt_done (r : Record) : ∀ (xs acc : List Record), (∀ x ∈ xs, recID r < recID x) → xs.foldl (putSt r) (acc, true) = (acc ++ xs, true)
  | [], acc, _ => by simp
  | x :: xs, acc, h => by
    have hx := h x (List.mem_cons_self ..)
    rw [List.foldl_cons, show putSt r (acc, true) x = (acc ++ [x], true) by unfold putSt; rw [if_neg (by simp), if_neg (by omega)], putSt_done r xs _ fun y hy => h y (List.mem_cons_of_mem _ hy)]
    simp
theorem putF_acc (r : Record) : ∀ (xs acc : List Record), RAsc xs → (∀ x ∈ xs, recID x = recID r → (newR r x = true ↔ cmpR x r < 0)) →
    (if (xs.foldl (putSt r) (acc, false)).2 = true then (xs.foldl (putSt r) (acc, false)).1 else (xs.foldl (putSt r) (acc, false)).1 ++ [r]) = acc ++ putR xs r
  | [], acc, _, _ => by simp [putR]
  | x :: xs, acc, h, hn => by
    have hp := List.pairwise_cons.1 h
    have hn2 := fun y hy => hn y (List.mem_cons_of_mem x hy)
    have hnx := hn x (List.mem_cons_self ..)
    rw [List.foldl_cons]
    unfold putR
    by_cases hx : recID x < recID r
    · rw [if_pos hx, show putSt r (acc, false) x = (acc ++ [x], false) by unfold putSt; rw [if_neg (by simp; omega), if_neg (by omega)], putF_acc r xs _ hp.2 hn2]
      simp
    · rw [if_neg hx]
      by_cases he : recID x = recID r
      · have hall : ∀ y ∈ xs, recID r < recID y := fun y hy => by rw [← he]; exact hp.1 y hy
        rw [if_pos he]
        by_cases hw : newR r x = true
        · rw [show putSt r (acc, false) x = (acc ++ [r], true) by unfold putSt; rw [if_neg (by simp; omega), if_pos he, if_pos hw], putSt_done r xs _ hall, if_pos rfl, if_pos ((hnx he).1 hw)]
          simp
        · rw [show putSt r (acc, false) x = (acc ++ [x], true) by unfold putSt; rw [if_neg (by simp; omega), if_pos he, if_neg hw], putSt_done r xs _ hall, if_pos rfl, if_neg (fun k => hw ((hnx he).2 k))]
          simp
      · have hall : ∀ y ∈ xs, recID r < recID y := fun y hy => by have := hp.1 y hy; omega
        rw [if_neg he, show putSt r (acc, false) x = (acc ++ [r] ++ [x], true) by unfold putSt; rw [if_pos ⟨rfl, by omega⟩], putSt_done r xs _ hall, if_pos rfl]
        simp
theorem newR_iff {x y : Record} (hs : x.source = y.source) (hk : x.key = y.key) : (newR y x = true ↔ cmpR x y < 0) := by
  have e0 : cmpI x.source y.source = 0 := by unfold cmpI; rw [hs]; simp
  have e1 : cmpI x.key y.key = 0 := by unfold cmpI; rw [hk]; simp
  have ha := cmpR_anti x y
  unfold newR
  by_cases hv : y.version = x.version
  · rw [if_pos hv, decide_eq_true_eq, ha]
    omega
  · have h3 : ¬ cmpI x.version y.version = 0 ∧ (cmpI x.version y.version < 0 ↔ x.version < y.version) := by
      unfold cmpI
      by_cases h1 : x.version < y.version
      · rw [if_pos h1]; exact ⟨by omega, fun _ => h1, fun _ => by omega⟩
      · rw [if_neg h1, if_pos (by omega)]; exact ⟨by omega, fun _ => by omega, fun _ => by omega⟩
    rw [if_neg hv, decide_eq_true_eq, cmpR_heads, fz_zero e0, fz_zero e1, fz_pos h3.1]
    exact h3.2.symm
theorem putF_eq {xs : List Record} {r : Record} (h : RAsc xs) (ho : ∀ x ∈ xs, okH x = true) (hr : okH r = true) : putF xs r = putR xs r := by
  have := putF_acc r xs [] h fun x hx he => by
    have := (recID_same (ho x hx) hr).1 he
    exact newR_iff this.1 this.2
  unfold putF
  rw [this]; rfl

/-- what a deletion leaves -/
def delP (o r : Record) : Bool := decide (cmpO r o = 0) && decide (r.version ≤ o.version)
def delR (xs : List Record) (o : Record) : List Record := xs.filter fun r => !delP o r
theorem delR_asc {xs : List Record} {o : Record} (h : RAsc xs) : RAsc (delR xs o) := h.sublist List.filter_sublist
/-- as the reference deletes -/
def delF (xs : List Record) (o : Record) : List Record :=
  if 0 ≤ idxF (fun r => recID r == recID o) 0 xs ∧ (rAt xs (idxF (fun r => recID r == recID o) 0 xs).toNat).version ≤ o.version then xs.eraseIdx (idxF (fun r => recID r == recID o) 0 xs).toNat else xs
end Go.Proofs.YtfcbapaojoecgaaGreat

namespace Go.Proofs.YtfcbapaojoecgaaGreat
open Go.RowKit

theorem impl_put_1 (v : Value) (r : Record) (id : Int) (w : World) (h : RecAt w v r) (h1 : 1 ≤ recID r ∧ recID r ≤ 399) (h2 : 1 ≤ id ∧ id ≤ 399) :
    Calls Tryz.prog 98 #[v, .int .i64 id] w fun e w2 => e = .returned (.int .i64 (recID r - id)) ∧ Ext w w2 := by
  have hA := h
  obtain ⟨f, rfl, hok, hs⟩ := h
  have xb : Ext w (w.alloc (.cells #[.int .i64 r.source, .int .i64 r.key, .int .i64 r.version, f] 72)) := (Ext.refl w).alloc _
  go_enter Tryz.func98, Tryz.ntmps98
  go_wp2_with fail
  refine (impl_RecordID _ r _ (hA.mono xb)).mono ?_
  rintro e w2 ⟨rfl, x2⟩
  go_wp2
  go_ret
  exact ⟨rfl, xb.trans x2⟩

/-- does a record of this identifier stand at its place -/
noncomputable def fndR (xs : List Record) (id : Int) : Bool := @decide (∃ h : cntR xs id < xs.length, recID xs[cntR xs id] = id) (Classical.propDecidable _)
theorem fndR_iff (xs : List Record) (id : Int) : fndR xs id = true ↔ ∃ h : cntR xs id < xs.length, recID xs[cntR xs id] = id := by unfold fndR; exact @decide_eq_true_iff _ (Classical.propDecidable _)

set_option maxHeartbeats 1000000 in
set_option maxRecDepth 20000 in
theorem slices_BSF_r (v : Value) (xs : List Record) (id : Int) (w : World) (h : Sl recordR w v xs) (ha : RAsc xs) (ho : ∀ r ∈ xs, okH r = true) (hi : 1 ≤ id ∧ id ≤ 399) (hl : xs.length ≤ 1048576) :
    Calls Tryz.prog 97 #[v, .int .i64 id, .func (.func 98) #[] #[]] w fun e w2 =>
      e = .returned (.tuple #[.int .i64 (cntR xs id), .bool (fndR xs id)]) ∧ Ext w w2 := by
  obtain ⟨A, cap, rfl, hm⟩ := h.form
  have HA := hid (fun k (hk : k < xs.length) => rasc_side ha hk (id := id))
  have HF := hid (fndR_iff xs id)
  have HO := hid (fun k (hk : k < xs.length) => recID_bd (ho xs[k] (List.getElem_mem hk)))
  have hcl := cntR_le xs id
  obtain ⟨cnt, hcnt⟩ : ∃ cnt, cnt = cntR xs id := ⟨_, rfl⟩
  have HC := hid hcnt
  rw [← hcnt] at hcl ⊢
  obtain ⟨fd, hfd⟩ : ∃ fd, fd = fndR xs id := ⟨_, rfl⟩
  have HD := hid hfd
  rw [← hfd]
  clear ha hcnt hfd ho
  go_enter Tryz.func97, Tryz.ntmps97
  go_wp2
  go_loopg [9, 10] 1048576 (fun kx s9 s10 wr => ∃ lo hi : Nat, s9 = .int .i64 lo ∧ s10 = .int .i64 hi ∧ lo ≤ hi ∧ hi ≤ xs.length ∧ hi - lo ≤ kx ∧ lo ≤ cnt ∧ cnt ≤ hi ∧ Ext w wr)
  case atStart => exact ⟨0, xs.length, rfl, rfl, Nat.zero_le _, Nat.le_refl _, by omega, Nat.zero_le _, hcl, Ext.refl _⟩
  case round =>
    obtain ⟨lo, hi2, rfl, rfl, hlh, hin, hg, h1, h2, hx⟩ := hrel
    by_cases hlt : lo < hi2
    · have hmid : (lo + hi2) / 2 < xs.length := by omega
      obtain ⟨b, off, A2, cap2, rfl, hok, hsl, hc0, hc1, hc2, hc3⟩ := (h.mono hx).record hmid
      have hs := HA.out _ hmid
      rw [← HC.out] at hs
      have hb := HO.out _ hmid
      have hat : RecAt wr (.agg #[.int .i64 xs[(lo + hi2) / 2].source, .int .i64 xs[(lo + hi2) / 2].key, .int .i64 xs[(lo + hi2) / 2].version, .slice A2 xs[(lo + hi2) / 2].fields.length cap2]) xs[(lo + hi2) / 2] := ⟨_, rfl, hok, hsl⟩
      have HCON := hid (impl_put_1 _ _ id _ hat hb hi)
      clear hok hsl hat
      obtain ⟨y, hy⟩ : ∃ y, y = xs[(lo + hi2) / 2] := ⟨_, rfl⟩
      rw [← hy] at hs hb hc0 hc1 hc2 hc3 HCON
      clear hy
      by_cases hyx : recID y < id
      · have hm1 := hs.1 hyx
        clear hs
        go_wp2_with fail
        refine HCON.out.mono ?_
        rintro e w2 ⟨rfl, x2⟩
        have hneg : recID y - id < 0 := by omega
        go_wp2
        go_roundg (hi2 - ((lo + hi2) / 2 + 1))
        case measure => omega
        case rel => exact ⟨(lo + hi2) / 2 + 1, hi2, by rw [show ((lo : Int) + (hi2 : Int)) / 2 + 1 = (((lo + hi2) / 2 + 1 : Nat) : Int) by omega], rfl, by omega, hin, Nat.le_refl _, by omega, h2, hx.trans x2⟩
      · have hm1 : cnt ≤ (lo + hi2) / 2 := Nat.le_of_not_lt fun k => hyx (hs.2 k)
        clear hs
        go_wp2_with fail
        refine HCON.out.mono ?_
        rintro e w2 ⟨rfl, x2⟩
        have hneg : ¬ recID y - id < 0 := by omega
        go_wp2
        go_roundg ((lo + hi2) / 2 - lo)
        case measure => omega
        case rel => exact ⟨lo, (lo + hi2) / 2, rfl, by rw [show ((lo : Int) + (hi2 : Int)) / 2 = (((lo + hi2) / 2 : Nat) : Int) by omega], by omega, by omega, Nat.le_refl _, h1, hm1, hx.trans x2⟩
    · obtain rfl : hi2 = lo := by omega
      obtain rfl : cnt = hi2 := by omega
      by_cases hn : cnt < xs.length
      · obtain ⟨b, off, A2, cap2, rfl, hok, hsl, hc0, hc1, hc2, hc3⟩ := (h.mono hx).record hn
        have hb := HO.out _ hn
        have hat : RecAt wr (.agg #[.int .i64 xs[cnt].source, .int .i64 xs[cnt].key, .int .i64 xs[cnt].version, .slice A2 xs[cnt].fields.length cap2]) xs[cnt] := ⟨_, rfl, hok, hsl⟩
        have HCON := hid (impl_put_1 _ _ id _ hat hb hi)
        have hF : fd = decide (recID xs[cnt] = id) := by
          rw [HD.out]
          have e2 : ∀ hk : cntR xs id < xs.length, xs[cntR xs id] = xs[cnt] := fun hk => by congr 1; exact HC.out.symm
          by_cases hm : recID xs[cnt] = id
          · rw [decide_eq_true hm]
            exact HF.out.2 ⟨by rw [← HC.out]; exact hn, by rw [e2]; exact hm⟩
          · rw [decide_eq_false hm]
            cases hbb : fndR xs id with
            | false => rfl
            | true =>
              obtain ⟨hk, e⟩ := HF.out.1 hbb
              rw [e2 hk] at e
              exact absurd e hm
        clear hok hsl hat
        obtain ⟨y, hy⟩ : ∃ y, y = xs[cnt] := ⟨_, rfl⟩
        rw [← hy] at hF hb hc0 hc1 hc2 hc3 HCON
        have HFF := hid hF
        clear hy hF
        by_cases hyx : recID y = id
        · go_wp2_with fail
          refine HCON.out.mono ?_
          rintro e w2 ⟨rfl, x2⟩
          have hz : recID y - id = 0 := by omega
          have HN := hid hyx
          rw [hz]
          clear hz hyx
          go_wp2
          refine bodyPost_ret (v := .tuple #[.int .i64 cnt, .bool true]) (by simp [results, Tryz.results97, go_sem]) rfl ?_
          exact ⟨by rw [HFF.out, decide_eq_true HN.out], hx.trans x2⟩
        · have hyx2 : (recID y - id == 0) = false := by rw [beq_eq_false_iff_ne]; omega
          have HN := hid hyx
          clear hyx
          go_wp2_with fail
          refine HCON.out.mono ?_
          rintro e w2 ⟨rfl, x2⟩
          go_wp2
          refine bodyPost_ret (v := .tuple #[.int .i64 cnt, .bool false]) (by simp [results, Tryz.results97, go_sem]) rfl ?_
          exact ⟨by rw [HFF.out, decide_eq_false HN.out], hx.trans x2⟩
      · have hF : fd = false := by
          rw [HD.out]
          cases hb : fndR xs id with
          | false => rfl
          | true =>
            obtain ⟨hk, _⟩ := HF.out.1 hb
            rw [← HC.out] at hk; exact absurd hk hn
        have HFF := hid hF
        clear hF
        go_wp2_with fail
        go_wp2
        refine bodyPost_ret (v := .tuple #[.int .i64 cnt, .bool false]) (by simp [results, Tryz.results97, go_sem]) rfl ?_
        exact ⟨by rw [HFF.out], hx⟩
end Go.Proofs.YtfcbapaojoecgaaGreat

namespace Go.Proofs.YtfcbapaojoecgaaGreat
open Go.RowKit

set_option maxHeartbeats 400000 in
set_option maxRecDepth 20000 in
theorem impl_compareOrigins_f (x y : Record) (f g : Value) (w : World) :
    Calls Tryz.prog 102 #[.agg #[.int .i64 x.source, .int .i64 x.key, .int .i64 x.version, f], .agg #[.int .i64 y.source, .int .i64 y.key, .int .i64 y.version, g]] w fun e w2 => e = .returned (.int .i64 (cmpO x y)) ∧ Ext w w2 := by
  go_enter Tryz.func102, Tryz.ntmps102
  go_wp2
  refine wp_region_still_tail 10 (by kernel_rfl) (by kernel_rfl) ?_
  simp only [List.take_succ_cons, List.take_zero, List.drop_succ_cons, List.drop_zero]
  change wpStill _ _ (World.drew _) _ _ _
  repeat (first | still_step | still_call (cmp_Compare _ _ _))
  refine wpStill_nil ?_
  change wpList _ _ _ _ _ (World.drew _)
  go_wp2_with fail
  refine (cmp_Or _ [cmpI x.source y.source, cmpI x.key y.key] _ ?_).mono ?_
  · exact (Sl.new_ints _ [cmpI x.source y.source, cmpI x.key y.key] _ _ _ (by simp) (by simp) (by simp [cmpI_64]) (by simp [maxLen])).mono (Ext.refl _).drew
  rintro e w2 ⟨rfl, rfl⟩
  go_wp2
  go_ret
  exact ⟨ret_int rfl, (by repeat (first | with_reducible exact Ext.refl _ | with_reducible assumption | with_reducible refine Ext.drew ?_ | with_reducible refine Ext.alloc ?_ _ | with_reducible refine Ext.trans ?_ (by with_reducible assumption)))⟩

set_option maxHeartbeats 400000 in
set_option maxRecDepth 20000 in
theorem impl_SameOrigin_f (x y : Record) (f g : Value) (w : World) :
    Calls Tryz.prog 50 #[.agg #[.int .i64 x.source, .int .i64 x.key, .int .i64 x.version, f], .agg #[.int .i64 y.source, .int .i64 y.key, .int .i64 y.version, g]] w fun e w2 => e = .returned (.bool (decide (cmpO x y = 0))) ∧ Ext w w2 := by
  have xb : Ext w ((w.alloc (.cells #[.int .i64 x.source, .int .i64 x.key, .int .i64 x.version, f] 72)).alloc (.cells #[.int .i64 y.source, .int .i64 y.key, .int .i64 y.version, g] 72)) := ((Ext.refl w).alloc _).alloc _
  go_enter Tryz.func50, Tryz.ntmps50
  go_wp2_with fail
  refine (impl_compareOrigins_f x y f g _).mono ?_
  rintro e w2 ⟨rfl, x2⟩
  have e1 : (cmpO x y == 0) = decide (cmpO x y = 0) := by
    by_cases h : cmpO x y = 0 <;> simp [h]
  have E1 := hid e1
  obtain ⟨c, hc⟩ : ∃ c, c = cmpO x y := ⟨_, rfl⟩
  rw [← hc] at E1 ⊢
  have HC := hid hc
  clear e1 hc
  go_wp2
  go_ret
  exact ⟨ret_bool (by rw [E1.out, HC.out]), xb.trans x2⟩

/-- the cells of an operation's record, of its verdict -/
def OpCells (w : World) (g : Nat) (o : Op) (fo : Value) : Prop :=
  (w.cell? ⟨g, 1, none⟩ = some (.int .i64 o.record.source) ∧ w.cell? ⟨g, 2, none⟩ = some (.int .i64 o.record.key) ∧ w.cell? ⟨g, 3, none⟩ = some (.int .i64 o.record.version) ∧ w.cell? ⟨g, 4, none⟩ = some fo) ∧
  w.cell? ⟨g, 5, none⟩ = some (.int .i64 o.verdict.a) ∧ w.cell? ⟨g, 6, none⟩ = some (.int .i64 o.verdict.b) ∧ w.cell? ⟨g, 7, none⟩ = some (.bool o.verdict.same) ∧ w.cell? ⟨g, 8, none⟩ = some (.int .i64 o.verdict.time)
theorem OpCells.ext {w w2 : World} {g : Nat} {o : Op} {fo : Value} (h : OpCells w g o fo) (x : Ext w w2) : OpCells w2 g o fo :=
  ⟨⟨x.cell h.1.1, x.cell h.1.2.1, x.cell h.1.2.2.1, x.cell h.1.2.2.2⟩, x.cell h.2.1, x.cell h.2.2.1, x.cell h.2.2.2.1, x.cell h.2.2.2.2⟩

set_option maxHeartbeats 1000000 in
set_option maxRecDepth 20000 in
theorem impl_ApplyBatch_1 (x : Record) (f fo : Value) (o : Op) (g : Nat) (w : World) (h : OpCells w g o fo) :
    Calls Tryz.prog 49 #[.agg #[.int .i64 x.source, .int .i64 x.key, .int .i64 x.version, f], .pointer (some ⟨g, 0, none⟩)] w fun e w2 => e = .returned (.bool (delP o.record x)) ∧ Ext w w2 := by
  have xb : Ext w (w.alloc (.cells #[.int .i64 x.source, .int .i64 x.key, .int .i64 x.version, f] 72)) := (Ext.refl w).alloc _
  have H := hid h
  obtain ⟨⟨c1, c2, c3, c4⟩, _⟩ := h.ext xb
  clear h
  go_enter Tryz.func49, Tryz.ntmps49
  go_wp2_with fail
  refine (impl_SameOrigin_f x o.record f fo _).mono ?_
  rintro e w2 ⟨rfl, x2⟩
  clear c1 c2 c3 c4
  obtain ⟨⟨c1, c2, c3, c4⟩, _⟩ := H.out.ext (xb.trans x2)
  have b2 := x2.box.1 2
  have hdel : delP o.record x = (decide (cmpO x o.record = 0) && decide (x.version ≤ o.record.version)) := by
    unfold delP
    have this := cmpO_anti x o.record
    first | rfl | (congr 1; exact decide_eq_decide.2 ⟨fun h => by omega, fun h => by omega⟩)
  have HD := hid hdel
  obtain ⟨so, hso⟩ : ∃ so, so = decide (cmpO x o.record = 0) := ⟨_, rfl⟩
  rw [← hso] at HD ⊢
  clear hdel hso
  cases so with
  | true =>
    go_wp2
    go_ret
    exact ⟨ret_bool (by rw [HD.out, Bool.true_and]), xb.trans x2⟩
  | false =>
    go_wp2
    go_ret
    exact ⟨ret_bool (by rw [HD.out]; rfl), xb.trans x2⟩

set_option maxHeartbeats 1000000 in
set_option maxRecDepth 20000 in
theorem impl_ApplyBatch_2 (x : Verdict) (fo : Value) (o : Op) (g : Nat) (w : World) (h : OpCells w g o fo) :
    Calls Tryz.prog 52 #[.agg #[.int .i64 x.a, .int .i64 x.b, .bool x.same, .int .i64 x.time], .pointer (some ⟨g, 0, none⟩)] w fun e w2 => e = .returned (.bool (eqB x o.verdict)) ∧ Ext w w2 := by
  have xb : Ext w (w.alloc (.cells #[.int .i64 x.a, .int .i64 x.b, .bool x.same, .int .i64 x.time] 74)) := (Ext.refl w).alloc _
  obtain ⟨_, c5, c6, c7, c8⟩ := h.ext xb
  clear h
  rcases ver_cases x o.verdict with ⟨he, e1, e2, e3, e4⟩ | ⟨hne, hw⟩
  · have HE := hid (eqB_true he)
    clear he
    go_enter Tryz.func52, Tryz.ntmps52
    go_wp2
    go_ret
    exact ⟨ret_bool HE.out.symm, xb⟩
  · have HE := hid (eqB_false hne)
    clear hne
    rcases hw with e1 | ⟨e1, e2⟩ | ⟨e1, e2, e3⟩ | ⟨e1, e2, e3, e4⟩
    all_goals
      go_enter Tryz.func52, Tryz.ntmps52
      go_wp2
      go_ret
      exact ⟨ret_bool HE.out.symm, xb⟩

/-! ### Rows that are filtered -/
/-- a record's and a verdict's test, at their cells -/
def rP (p : Record → Bool) : Q4 → Bool
  | ⟨.int _ s, .int _ k, .int _ t, _⟩ => p ⟨s, k, t, []⟩
  | _ => false
def vP (p : Verdict → Bool) : Q4 → Bool
  | ⟨.int _ a, .int _ b, .bool s, .int _ t⟩ => p ⟨a, b, s, t⟩
  | _ => false
theorem vP_q (p : Verdict → Bool) (v : Verdict) : vP p v.q = p v := rfl
theorem delP_f (o x : Record) : delP o x = delP o ⟨x.source, x.key, x.version, []⟩ := rfl
theorem vfilter (p : Verdict → Bool) (xs : List Verdict) : (xs.map Verdict.q).filter (fun q => !vP p q) = (xs.filter fun x => !p x).map Verdict.q := by
  rw [List.filter_map]
  rfl
theorem recs_shape {w : World} : ∀ {xs : List Record} {qs : List Q4} {F : List Nat}, OwnCells recordO w (flatQ qs) xs F → qs.length = xs.length → (∀ q ∈ qs, RecQ q) ∧
    ∀ p : Record → Bool, (∀ x : Record, p x = p ⟨x.source, x.key, x.version, []⟩) → ∃ F2, F2.Sublist F ∧ OwnCells recordO w (flatQ (qs.filter fun q => !rP p q)) (xs.filter fun x => !p x) F2
  | [], [], F, h, _ => ⟨(fun _ h => by cases h), fun _ _ => ⟨[], List.nil_sublist _, OwnCells.nil⟩⟩
  | [], _ :: _, _, _, hl => by simp at hl
  | _ :: _, [], _, _, hl => by simp at hl
  | x :: xs, q :: qs, F, ⟨c, d, F1, F2, h1, h2, ⟨f, h3, h4, h5⟩, h6⟩, hl => by
    rw [flatQ_cons] at h1
    have hc : c.length = 4 := by rw [h3]; rfl
    obtain ⟨e1, e2⟩ := List.append_inj h1 (by rw [hc]; rfl)
    subst e2
    obtain ⟨i1, i2⟩ := recs_shape h6 (by simpa using hl)
    obtain ⟨A, k, rfl, _⟩ := h5.form
    have hq : q = ⟨.int .i64 x.source, .int .i64 x.key, .int .i64 x.version, .slice A x.fields.length k⟩ := by
      have e3 := e1.trans h3
      obtain ⟨qa, qb, qc, qd⟩ := q
      simp only [Q4.cells, Record.cells, List.cons.injEq, and_true] at e3
      obtain ⟨rfl, rfl, rfl, rfl⟩ := e3
      rfl
    refine ⟨fun y hy => ?_, fun p hp => ?_⟩
    · rcases List.mem_cons.1 hy with rfl | hy
      · exact ⟨_, _, _, _, _, _, hq⟩
      · exact i1 y hy
    · obtain ⟨G, s1, s2⟩ := i2 p hp
      have hpq : rP p q = p x := by rw [hq, hp x]; rfl
      rw [List.filter_cons, List.filter_cons, hpq]
      cases p x with
      | true => exact ⟨G, h2 ▸ s1.trans (List.sublist_append_right _ _), s2⟩
      | false =>
        refine ⟨F1 ++ G, h2 ▸ s1.append_left F1, ?_⟩
        simp only [Bool.not_false, if_true]
        rw [flatQ_cons]
        exact ⟨c, _, F1, G, by rw [e1], rfl, ⟨_, h3, h4, h5⟩, s2⟩
theorem vers_shape {w : World} {xs : List Verdict} {qs : List Q4} {F : List Nat} (h : OwnCells verdictO w (flatQ qs) xs F) : qs = xs.map Verdict.q ∧ (∀ x ∈ xs, x.ok) := by
  obtain ⟨e, h2, _⟩ := vers_flat h
  refine ⟨flatQ_inj ?_, h2⟩
  rw [e]
  unfold flatQ
  rw [List.flatMap_map]; rfl
theorem vers_ownq (xs : List Verdict) (h : ∀ x ∈ xs, x.ok) (W : World) : OwnCells verdictO W (flatQ (xs.map Verdict.q)) xs [] := by
  have := vers_own xs h W
  have e : flatQ (xs.map Verdict.q) = xs.flatMap Verdict.cells := by
    unfold flatQ
    rw [List.flatMap_map]; rfl
  rw [e]; exact this
theorem vers_verq (xs : List Verdict) : ∀ q ∈ xs.map Verdict.q, VerQ q := fun q hq => by
  obtain ⟨x, _, rfl⟩ := List.mem_map.1 hq
  exact ⟨_, _, _, _, rfl⟩
end Go.Proofs.YtfcbapaojoecgaaGreat

namespace Go.Proofs.YtfcbapaojoecgaaGreat
open Go.RowKit

section
variable {α : Type} {R : RepO α} {w : World}
theorem OwnCells.cut : ∀ {xs : List α} {cs : List Value} {F : List Nat} (k : Nat), OwnCells R w cs xs F → k ≤ xs.length →
    ∃ F0 F1, F = F0 ++ F1 ∧ OwnCells R w (cs.take (k * R.n)) (xs.take k) F0 ∧ OwnCells R w (cs.drop (k * R.n)) (xs.drop k) F1
  | xs, cs, F, 0, h, _ => ⟨[], F, rfl, by simpa using OwnCells.nil, by simpa using h⟩
  | [], _, _, k + 1, _, hk => by simp at hk
  | x :: xs, cs, F, k + 1, ⟨c, d, F1, F2, h0, h1, h2, h3⟩, hk => by
    obtain ⟨G0, G1, e, k0, k1⟩ := OwnCells.cut k h3 (by simpa using hk)
    have hl : c.length = R.n := R.len (R.own_rd h2)
    have e1 : (k + 1) * R.n = c.length + k * R.n := by rw [hl, Nat.add_mul]; omega
    refine ⟨F1 ++ G0, G1, by rw [h1, e, List.append_assoc], ?_, ?_⟩
    · rw [h0, e1, List.take_length_add_append]
      exact ⟨c, _, F1, G0, rfl, rfl, h2, by simpa using k0⟩
    · rw [h0, e1, List.drop_length_add_append]
      simpa using k1
/-- one element more, at place k -/
theorem OwnCells.ins {xs : List α} {cs c : List Value} {F G : List Nat} {y : α} {k : Nat} (h : OwnCells R w cs xs F) (hk : k ≤ xs.length) (hy : R.own w c y G) :
    ∃ F2, OwnCells R w (cs.take (k * R.n) ++ (c ++ cs.drop (k * R.n))) (xs.take k ++ y :: xs.drop k) F2 ∧ F2.Perm (F ++ G) := by
  obtain ⟨F0, F1, e, k0, k1⟩ := h.cut k hk
  refine ⟨F0 ++ (G ++ F1), k0.append (OwnCells.append (.one hy) k1), ?_⟩
  rw [e, List.append_assoc]
  exact List.Perm.append_left F0 List.perm_append_comm
/-- the element at place k another -/
theorem OwnCells.rep {xs : List α} {cs c : List Value} {F G : List Nat} {y : α} {k : Nat} (h : OwnCells R w cs xs F) (hk : k < xs.length) (hy : R.own w c y G) :
    ∃ F2, OwnCells R w (cs.take (k * R.n) ++ (c ++ cs.drop (k * R.n + R.n))) (xs.set k y) F2 ∧ (∀ b ∈ F2, b ∈ F ∨ b ∈ G) ∧ (F.Nodup → G.Nodup → (∀ b ∈ G, b ∉ F) → F2.Nodup) := by
  obtain ⟨c0, c', c1, F0, F1, F2, e, eF, l0, l1, k0, _, k2⟩ := h.split k hk
  have e1 : cs.take (k * R.n) = c0 := by rw [e, ← l0, List.take_left]
  have e2 : cs.drop (k * R.n + R.n) = c1 := by rw [e, ← l0, ← l1, ← List.drop_drop, List.drop_left, List.drop_left]
  rw [e1, e2, List.set_eq_take_append_cons_drop, if_pos hk]
  refine ⟨F0 ++ (G ++ F2), k0.append (OwnCells.append (.one hy) k2), fun b hb => ?_, fun n1 n2 n3 => ?_⟩
  · rw [eF]
    simp only [List.mem_append] at hb ⊢
    rcases hb with hb | hb | hb
    · exact .inl (.inl hb)
    · exact .inr hb
    · exact .inl (.inr (.inr hb))
  · rw [eF] at n1 n3
    have a1 := List.nodup_append.1 n1
    have a2 := List.nodup_append.1 a1.2.1
    refine List.nodup_append.2 ⟨a1.1, List.nodup_append.2 ⟨n2, a2.2.1, fun a ha b hb e => n3 a ha (by subst e; simp [hb])⟩, fun a ha b hb e => ?_⟩
    subst e
    rcases List.mem_append.1 hb with hb | hb
    · exact n3 a hb (by simp [ha])
    · exact a1.2.2 a ha a (by simp [hb]) rfl
end
theorem recs_one {w : World} : ∀ {xs : List Record} {cs : List Value} {F : List Nat}, OwnCells recordO w cs xs F → ∀ u ∈ cs, u.oneCell' = true
  | [], _, _, h, u, hu => by rw [h.1] at hu; cases hu
  | x :: xs, _, _, ⟨c, d, F1, F2, h1, _, ⟨f, h2, _, h3⟩, h4⟩, u, hu => by
    rw [h1] at hu
    rcases List.mem_append.1 hu with hu | hu
    · rw [h2] at hu
      obtain ⟨A, k, rfl, _⟩ := h3.form
      simp only [Record.cells, List.mem_cons, List.not_mem_nil, or_false] at hu
      rcases hu with rfl | rfl | rfl | rfl <;> rfl
    · exact recs_one h4 u hu
theorem flatQ_set {l : List Q4} {k : Nat} (h : k < l.length) (q : Q4) : flatQ (l.set k q) = (flatQ l).take (k * 4) ++ (q.cells ++ (flatQ l).drop (k * 4 + 4)) := by
  rw [List.set_eq_take_append_cons_drop, if_pos h, flatQ_app, flatQ_cons, flatQ_take, flatQ_drop, Nat.add_mul]
/-- what a step in place leaves: the row, and all else -/
def InPl (w w2 : World) (base : Nat) (v v2 : Value) (F F2 : List Nat) : Prop :=
  (∀ w0 : World, w0.heap.size ≤ base → Ext w0 w → Ext w0 w2) ∧ (∀ b, b < w.heap.size → v.ownBlock ≠ some b → w2.heap[b]? = w.heap[b]?) ∧ w.heap.size ≤ w2.heap.size ∧ (∀ b ∈ F2, b ∈ F ∨ w.heap.size ≤ b) ∧ ∀ g, v2.ownBlock = some g → v.ownBlock = some g ∨ w.heap.size ≤ g
theorem InPl.refl (w : World) (base : Nat) (v : Value) (F : List Nat) : InPl w w base v v F F := ⟨fun _ _ h => h, fun _ _ _ => rfl, Nat.le_refl _, fun _ h => .inl h, fun _ h => .inl h⟩
theorem InPl.ext {w w2 : World} (x : Ext w w2) (base : Nat) (v : Value) (F : List Nat) : InPl w w2 base v v F F := ⟨fun _ _ h => h.trans x, fun _ hb _ => x.block hb, x.size, fun _ h => .inl h, fun _ h => .inl h⟩
/-- behind a growth -/
theorem InPl.after {w w1 w2 : World} {base : Nat} {v v2 : Value} {F F2 : List Nat} (x : Ext w w1) (h : InPl w1 w2 base v v2 F F2) : InPl w w2 base v v2 F F2 :=
  ⟨fun w0 h0 h1 => h.1 w0 h0 (h1.trans x), fun b hb hv => (h.2.1 b (Nat.lt_of_lt_of_le hb x.size) hv).trans (x.block hb), Nat.le_trans x.size h.2.2.1, fun b hb => (h.2.2.2.1 b hb).imp id (Nat.le_trans x.size), fun g hg => (h.2.2.2.2 g hg).imp id (Nat.le_trans x.size)⟩

set_option maxHeartbeats 4000000 in
set_option maxRecDepth 20000 in
theorem impl_put (rv v : Value) (rs : List Record) (F : List Nat) (r : Record) (base : Nat) (w : World) (hB : Bld recordO w base 72 rv rs F) (hr : RecAt w v r) (hasc : RAsc rs) (ho : ∀ x ∈ rs, okH x = true) (hok : okH r = true) (hl : rs.length ≤ 1000) (hf : r.fields.length ≤ 1048576) (hbase : base ≤ w.heap.size) :
    Calls Tryz.prog 47 #[rv, v] w fun e w2 => ∃ v2 F2, e = .returned v2 ∧ Bld recordO w2 base 72 v2 (putR rs r) F2 ∧ InPl w w2 base rv v2 F F2 := by
  have hrA := hr
  obtain ⟨f, rfl, hrok, hs⟩ := hr
  obtain ⟨Af, cf, rfl, _⟩ := hs.form
  have xb : Ext w (w.alloc (.cells #[.int .i64 r.source, .int .i64 r.key, .int .i64 r.version, .slice Af r.fields.length cf] 72)) := (Ext.refl w).alloc _
  have HBX := hid (show ∀ W, Ext (w.alloc (.cells #[.int .i64 r.source, .int .i64 r.key, .int .i64 r.version, .slice Af r.fields.length cf] 72)) W → W.cell? ⟨w.heap.size, 0, none⟩ = some (.int .i64 r.source) ∧ W.cell? ⟨w.heap.size, 1, none⟩ = some (.int .i64 r.key) ∧ W.cell? ⟨w.heap.size, 2, none⟩ = some (.int .i64 r.version) ∧ W.cell? ⟨w.heap.size, 3, none⟩ = some (.slice Af r.fields.length cf) from fun W y => ⟨y.box.1 0, y.box.1 1, y.box.1 2, y.box.1 3⟩)
  have HRA := hid (show ∀ W, Ext w W → RecAt W (.agg #[.int .i64 r.source, .int .i64 r.key, .int .i64 r.version, .slice Af r.fields.length cf]) r from fun W y => hrA.mono y)
  have hidb := recID_bd hok
  have HRS := hid hB
  obtain ⟨A, cap, e0, _⟩ := hB.sl.form
  subst e0
  go_enter Tryz.func47, Tryz.ntmps47
  go_wp2_with fail
  refine (impl_RecordID _ r _ (HRA.out _ xb)).mono ?_
  rintro e w1 ⟨rfl, x1⟩
  go_wp2_with fail
  refine (slices_BSF_r _ rs (recID r) _ ((HRS.out.ext (xb.trans x1)).sl) hasc ho hidb (by omega)).mono ?_
  rintro e w2 ⟨rfl, x2⟩
  have x12 := x1.trans x2
  have xw2 := xb.trans x12
  have hfd := fndR_iff rs (recID r)
  have hcl := cntR_le rs (recID r)
  obtain ⟨cnt, hcnt⟩ : ∃ c, c = cntR rs (recID r) := ⟨_, rfl⟩
  obtain ⟨fd, hfd2⟩ : ∃ c, c = fndR rs (recID r) := ⟨_, rfl⟩
  rw [← hcnt] at hcl
  have HC := hid hcnt
  have HFD := hid hfd
  have HFD2 := hid hfd2
  have HASC := hid hasc
  rw [← hcnt, ← hfd2]
  clear hfd hcnt hfd2 x1 x2 hB hrA hasc ho
  cases fd with
  | false =>
    have hput : putR rs r = rs.take cnt ++ r :: rs.drop cnt := by
      rw [HC.out]
      refine putR_new HASC.out fun hk e => ?_
      have := HFD.out.2 ⟨hk, e⟩
      rw [← HFD2.out] at this; cases this
    have HPUT := hid hput
    obtain ⟨b0, b1, b2, b3⟩ := HBX.out _ x12
    clear hput
    go_wp2_with fail
    refine (impl_cloneRecord _ r _ (HRA.out _ xw2) hf).mono ?_
    rintro e w3 ⟨v3, F3, rfl, ⟨f3, rfl, _, o3⟩, n3, x3⟩
    obtain ⟨A3, c3, e3, _⟩ := o3.form
    subst e3
    have xw3 := xw2.trans x3
    clear b0 b1 b2 b3
    have xr : Ext w3 (w3.alloc (.cells #[.int .i64 r.source, .int .i64 r.key, .int .i64 r.version, .slice A3 r.fields.length c3] 72)) := (Ext.refl w3).alloc _
    obtain ⟨cs, q1, q2, q3, q4, q5⟩ := HRS.out.ext (xw3.trans xr)
    have hne : (Value.slice A rs.length cap).ownBlock ≠ some w3.heap.size := fun e => by have h1 := ((HRS.out.ext xw3).lt.2 _ e).1; omega
    have hone : ∀ u ∈ cs, u.oneCell' = true := recs_one q2
    have HINS := hid (slices_Insert_r (.slice A rs.length cap) cs [.int .i64 r.source, .int .i64 r.key, .int .i64 r.version, .slice A3 r.fields.length c3] rs.length cnt base w3.heap.size _ q1 hcl (by omega) (Nat.le_trans hbase (xw3.trans xr).size) rfl (heap_alloc_new w3 _) hne hone (by simp [Value.oneCell']))
    have o3r := o3.ext xr
    have hF3 : ∀ b ∈ F3, w.heap.size ≤ b := fun b hb => Nat.le_trans xw2.size (n3.2 b hb)
    have hF3lt : ∀ b ∈ F3, b < w3.heap.size := o3.lt
    go_wp2_with fail
    refine HINS.out.mono ?_
    rintro e w6 ⟨v6, rfl, r1, r2, r3, r4, r5⟩
    have HFIN := hid (show ∃ F2, Bld recordO w6 base 72 v6 (putR rs r) F2 ∧ InPl w w6 base (.slice A rs.length cap) v6 F F2 from by
      obtain ⟨F2, k1, k2⟩ := q2.ins (c := [.int .i64 r.source, .int .i64 r.key, .int .i64 r.version, .slice A3 r.fields.length c3]) (y := r) (G := F3) hcl ⟨_, rfl, hrok, o3r⟩
      have hmem : ∀ b ∈ F2, b ∈ F ∨ b ∈ F3 := fun b hb => List.mem_append.1 (k2.mem_iff.1 hb)
      have hlt := HRS.out.lt
      have hlw : ∀ b ∈ F2, b < w3.heap.size + 1 := fun b hb => by
        rcases hmem b hb with h | h
        · have := hlt.1 b h; have := xw3.size; omega
        · have := hF3lt b h; omega
      have hnv : ∀ b ∈ F2, (Value.slice A rs.length cap).ownBlock ≠ some b := fun b hb e => by
        rcases hmem b hb with h | h
        · exact q3 b e h
        · have := (hlt.2 b e).1; have := hF3 b h; omega
      have hkeep : ∀ b ∈ F2, w6.heap[b]? = (w3.alloc (.cells #[.int .i64 r.source, .int .i64 r.key, .int .i64 r.version, .slice A3 r.fields.length c3] 72)).heap[b]? := fun b hb => r3 b (by rw [World.size_alloc]; exact hlw b hb) (hnv b hb)
      have hsz3 : w.heap.size ≤ w3.heap.size := xw3.size
      refine ⟨F2, ⟨_, ?_, (by rw [HPUT.out]; exact k1.keep hkeep), fun g hg hm => ?_, ?_, fun b hb => ?_⟩, fun w0 h0 hx => r2 w0 h0 (hx.trans (xw3.trans xr)), fun b hb hv => (r3 b (Nat.lt_of_lt_of_le hb (xw3.trans xr).size) hv).trans ((xw3.trans xr).block hb), Nat.le_trans (xw3.trans xr).size r4, fun b hb => ?_, fun g hg => ?_⟩
      · have : (putR rs r).length = rs.length + 1 := by
          rw [HPUT.out]
          simp only [List.length_append, List.length_take, List.length_cons, List.length_drop]; omega
        rw [this]; exact r1
      · rcases r5 with h | h
        · rw [h] at hg; exact hnv g hm hg
        · rw [h] at hg
          injection hg with hg
          have := hlw g hm
          rw [World.size_alloc] at hg; omega
      · refine k2.nodup_iff.2 (List.nodup_append.2 ⟨q4, n3.1, fun a ha b hb e => ?_⟩)
        subst e
        have := hlt.1 a ha; have := hF3 a hb; omega
      · rcases hmem b hb with h | h
        · exact q5 b h
        · have := hF3 b h; omega
      · exact (hmem b hb).imp id (hF3 b)
      · rcases r5 with h | h
        · rw [h] at hg; exact .inl hg
        · rw [h] at hg
          injection hg with hg
          rw [World.size_alloc] at hg
          exact .inr (by omega))
    clear r1 r2 r3 r4 r5 q1 q2 q3 q4 q5 o3 o3r hne hone n3
    go_wp2
    go_ret
    obtain ⟨F2, h1, h2⟩ := HFIN.out
    exact ⟨_, F2, rfl, h1, h2⟩
  | true =>
    obtain ⟨hk, he⟩ : ∃ hk : cnt < rs.length, recID rs[cnt] = recID r := by
      obtain ⟨hk, he⟩ := HFD.out.1 HFD2.out.symm
      have e2 : rs[cntR rs (recID r)] = rs[cnt]'(by rw [HC.out]; exact hk) := by congr 1; exact HC.out.symm
      exact ⟨by rw [HC.out]; exact hk, by rw [← e2]; exact he⟩
    have hput : putR rs r = if cmpR rs[cnt] r < 0 then rs.set cnt r else rs := by
      have h1 := putR_old (r := r) HASC.out (by rw [← HC.out]; exact hk) (by
        have e2 : rs[cntR rs (recID r)]'(by rw [← HC.out]; exact hk) = rs[cnt] := by congr 1; exact HC.out.symm
        rw [e2]; exact he)
      rw [h1]
      have e2 : rs[cntR rs (recID r)]'(by rw [← HC.out]; exact hk) = rs[cnt] := by congr 1; exact HC.out.symm
      rw [e2, ← HC.out]
    have HPUT := hid hput
    have HE := hid he
    clear hput he
    obtain ⟨cs, q1, q2, q3, q4, q5⟩ := HRS.out
    rcases ownsRow_q q1 with ⟨_, h0, _⟩ | ⟨g, row, e0, hbg, hR, hnr, hm, hcs⟩
    · omega
    · injection e0 with e1 e2 e3
      subst e1
      subst e3
      have HR := hid hR
      have HCS := hid hcs
      have HQ2 := hid q2
      have HQ := hid (And.intro (q3 g rfl) (And.intro q4 q5))
      clear q1 q2 q3 q4 q5 hR hcs
      have HSL := hid (show ∀ W, Ext w W → Sl recordR W (.slice (some ⟨g, 0, none⟩) rs.length row.length) rs from fun W y => (HRS.out.ext y).sl)
      obtain ⟨b, off, A2, cap2, eb, hok2, hsl2, c0, c1, c2, c3⟩ := (HSL.out _ xw2).record hk
      injection eb with eb
      injection eb with eb1 eb2
      subst eb1
      subst eb2
      simp only [Nat.zero_add] at c0 c1 c2 c3
      have HAT := hid (show ∀ W, Ext w2 W → RecAt W (.agg #[.int .i64 rs[cnt].source, .int .i64 rs[cnt].key, .int .i64 rs[cnt].version, .slice A2 rs[cnt].fields.length cap2]) rs[cnt] from fun W y => ⟨_, rfl, hok2, hsl2.mono y⟩)
      have HRB := hid (show ∀ W, Ext w2 W → RecAt W (.agg #[.int .i64 r.source, .int .i64 r.key, .int .i64 r.version, .slice Af r.fields.length cf]) r from fun W y => HRA.out _ (xw2.trans y))
      clear hok2 hsl2
      have y0 : ∀ z : ExtOf w2, z.1.cell? ⟨g, cnt * 4, none⟩ = _ := fun z => z.2.cell c0
      have y1 : ∀ z : ExtOf w2, z.1.cell? ⟨g, cnt * 4 + 1, none⟩ = _ := fun z => z.2.cell c1
      have y2 : ∀ z : ExtOf w2, z.1.cell? ⟨g, cnt * 4 + 2, none⟩ = _ := fun z => z.2.cell c2
      have y3 : ∀ z : ExtOf w2, z.1.cell? ⟨g, cnt * 4 + 3, none⟩ = _ := fun z => z.2.cell c3
      have z0 : ∀ z : ExtOf w2, z.1.cell? ⟨w.heap.size, 0, none⟩ = _ := fun z => (HBX.out _ (x12.trans z.2)).1
      have z1 : ∀ z : ExtOf w2, z.1.cell? ⟨w.heap.size, 1, none⟩ = _ := fun z => (HBX.out _ (x12.trans z.2)).2.1
      have z2 : ∀ z : ExtOf w2, z.1.cell? ⟨w.heap.size, 2, none⟩ = _ := fun z => (HBX.out _ (x12.trans z.2)).2.2.1
      have z3 : ∀ z : ExtOf w2, z.1.cell? ⟨w.heap.size, 3, none⟩ = _ := fun z => (HBX.out _ (x12.trans z.2)).2.2.2
      have h64 := cmpR_64 rs[cnt] r
      have HCMP := hid (show ∀ W, Ext w2 W → Calls Tryz.prog 101 #[.agg #[.int .i64 rs[cnt].source, .int .i64 rs[cnt].key, .int .i64 rs[cnt].version, .slice A2 rs[cnt].fields.length cap2], .agg #[.int .i64 r.source, .int .i64 r.key, .int .i64 r.version, .slice Af r.fields.length cf]] W fun e w2 => e = .returned (.int .i64 (cmpR rs[cnt] r)) ∧ Ext W w2 from fun W y => impl_CompareRecords _ _ rs[cnt] r _ (HAT.out _ y) (HRB.out _ y))
      obtain ⟨cm, hcm⟩ : ∃ cm, cm = cmpR rs[cnt] r := ⟨_, rfl⟩
      rw [← hcm] at h64 HCMP HPUT
      clear hcm c0 c1 c2 c3
      by_cases hneg : cm < 0
      · go_wp2_with fail
        refine wp_region_ext (by kernel_rfl) (by kernel_rfl) ?_
        repeat (go_big_quiet_step (((go_at_call 101; exact quiet_ext (HCMP.out _ (Subtype.property _))))))
        refine wpQuiet_nil ?_
        rintro w4 ⟨⟨_, x4⟩, rfl⟩
        clear y0 y1 y2 y3 z0 z1 z2 z3
        obtain ⟨b0, b1, b2, b3⟩ := HBX.out _ (x12.trans x4)
        have xw4 := xw2.trans x4
        go_wp2_with fail
        refine (impl_cloneRecord _ r _ (HRA.out _ xw4) hf).mono ?_
        rintro e w5 ⟨v5, F5, rfl, ⟨f5, rfl, _, o5⟩, n5, x5⟩
        obtain ⟨A5, c5, e5, _⟩ := o5.form
        subst e5
        have xw5 := xw4.trans x5
        have hR5 := HR.out.ext xw5
        have hkr : cnt < row.length := by omega
        obtain ⟨d0, d1, d2, d3⟩ := hR5.cells hkr
        have hfz := hR5.frozen
        have HST := hid (hR5.store hkr ⟨.int .i64 r.source, .int .i64 r.key, .int .i64 r.version, .slice A5 r.fields.length c5⟩)
        have HKS := hid (Kp.store4 g (cnt * 4) (.int .i64 r.source) (.int .i64 r.key) (.int .i64 r.version) (.slice A5 r.fields.length c5) w5)
        have HXS := hid (fun (w0 : World) (h0 : w0.heap.size ≤ base) (hx : Ext w0 w) => Ext.store4 (hx.trans xw5) (Nat.le_trans h0 hbg) (cnt * 4) (.int .i64 r.source) (.int .i64 r.key) (.int .i64 r.version) (.slice A5 r.fields.length c5))
        dsimp only at HST
        obtain ⟨W9, hW9⟩ : ∃ W9, W9 = (((w5.setCell ⟨g, cnt * 4, none⟩ (.int .i64 r.source)).setCell ⟨g, cnt * 4 + 1, none⟩ (.int .i64 r.key)).setCell ⟨g, cnt * 4 + 2, none⟩ (.int .i64 r.version)).setCell ⟨g, cnt * 4 + 3, none⟩ (.slice A5 r.fields.length c5) := ⟨_, rfl⟩
        rw [← hW9] at HST HKS HXS
        have HFIN := hid (show ∃ F2, Bld recordO W9 base 72 (.slice (some ⟨g, 0, none⟩) rs.length row.length) (putR rs r) F2 ∧ InPl w W9 base (.slice (some ⟨g, 0, none⟩) rs.length row.length) (.slice (some ⟨g, 0, none⟩) rs.length row.length) F F2 from by
          have hlt := HRS.out.lt
          have hgw := (hlt.2 g rfl).1
          have hF5 : ∀ b ∈ F5, w.heap.size ≤ b := fun b hb => Nat.le_trans xw4.size (n5.2 b hb)
          have hq5 : OwnCells recordO w5 cs rs F := HQ2.out.keep fun b hb => xw5.block (hlt.1 b hb)
          obtain ⟨F2, k1, k2, k3⟩ := hq5.rep (c := [.int .i64 r.source, .int .i64 r.key, .int .i64 r.version, .slice A5 r.fields.length c5]) (y := r) (G := F5) hk ⟨_, rfl, hrok, o5⟩
          have hng : g ∉ F2 := fun hm => by
            rcases k2 g hm with h | h
            · exact HQ.out.1 h
            · have := hF5 g h; omega
          have hl2 : ∀ b ∈ F2, b < w5.heap.size := fun b hb => by
            rcases k2 b hb with h | h
            · have := hlt.1 b h; have := xw5.size; omega
            · exact o5.lt b h
          have hcs2 : flatQ ((row.set cnt ⟨.int .i64 r.source, .int .i64 r.key, .int .i64 r.version, .slice A5 r.fields.length c5⟩).take rs.length) = cs.take (cnt * 4) ++ ([.int .i64 r.source, .int .i64 r.key, .int .i64 r.version, .slice A5 r.fields.length c5] ++ cs.drop (cnt * 4 + 4)) := by
            rw [List.take_set, flatQ_set (by rw [List.length_take]; omega), ← HCS.out]; rfl
          have hrow := ownsRow_of_q (base := base) (n := rs.length) hbg HST.out (by rw [List.length_set]; exact hnr) (by rw [List.length_set]; exact hm)
          rw [hcs2, List.length_set] at hrow
          rw [HPUT.out, if_pos hneg]
          refine ⟨F2, ⟨_, by rw [List.length_set]; exact hrow, k1.keep fun b hb => HKS.out.2 b (hl2 b hb) fun e => hng (e ▸ hb), fun g2 hg2 hm2 => ?_, k3 HQ.out.2.1 n5.1 fun b hb h => ?_, fun b hb => ?_⟩, HXS.out, fun b hb hv => (HKS.out.2 b (Nat.lt_of_lt_of_le hb xw5.size) fun e => hv (by rw [e]; rfl)).trans (xw5.block hb), Nat.le_trans xw5.size HKS.out.1, fun b hb => ?_, fun g2 hg2 => .inl hg2⟩
          · injection hg2 with hg2; subst hg2; exact hng hm2
          · have := hlt.1 b h; have := hF5 b hb; omega
          · rcases k2 b hb with h | h
            · exact HQ.out.2.2 b h
            · have := hF5 b h; omega
          · exact (k2 b hb).imp id (hF5 b))
        rw [hW9] at HFIN
        clear hW9 HST HKS HXS o5 n5 hR5
        go_wp2
        go_ret
        obtain ⟨F2, h1, h2⟩ := HFIN.out
        exact ⟨_, F2, rfl, h1, h2⟩
      · have HOLD := hid (show putR rs r = rs by rw [HPUT.out, if_neg hneg])
        go_wp2_with fail
        refine wp_region_ext (by kernel_rfl) (by kernel_rfl) ?_
        repeat (go_big_quiet_step (((go_at_call 101; exact quiet_ext (HCMP.out _ (Subtype.property _))))))
        refine wpQuiet_nil ?_
        rintro w4 ⟨⟨_, x4⟩, rfl⟩
        go_wp2
        go_ret
        exact ⟨_, F, rfl, by rw [HOLD.out]; exact HRS.out.ext (xw2.trans x4), InPl.ext (xw2.trans x4) base _ F⟩
end Go.Proofs.YtfcbapaojoecgaaGreat

namespace Go.Proofs.YtfcbapaojoecgaaGreat
open Go.RowKit

structure Sx (w : World) (base gx : Nat) (ver : Int) (rv vv : Value) (rs : List Record) (vs : List Verdict) (F : List Nat) : Prop where
  b : Blk w gx 34 [.int .i64 ver, rv, vv]
  r : Rows2 w base rv vv rs vs F
  nF : gx ∉ F
  nr : rv.ownBlock ≠ some gx
  nv : vv.ownBlock ≠ some gx
  hb : base ≤ gx
section
variable {w w2 : World} {base gx : Nat} {ver : Int} {rv vv v2 : Value} {rs rs2 : List Record} {vs vs2 : List Verdict} {F F2 : List Nat}
theorem Sx.ext (h : Sx w base gx ver rv vv rs vs F) (x : Ext w w2) : Sx w2 base gx ver rv vv rs vs F := ⟨h.b.ext x, h.r.ext x, h.nF, h.nr, h.nv, h.hb⟩
theorem Sx.cells (h : Sx w base gx ver rv vv rs vs F) : (w.cell? ⟨gx, 0, none⟩ = some (.int .i64 ver) ∧ w.cell? ⟨gx, 1, none⟩ = some rv ∧ w.cell? ⟨gx, 2, none⟩ = some vv) ∧ ∀ i, w.frozen? ⟨gx, i, none⟩ = false :=
  ⟨⟨h.b.cells.1 0, h.b.cells.1 1, h.b.cells.1 2⟩, h.b.cells.2⟩
theorem Sx.lt (h : Sx w base gx ver rv vv rs vs F) : gx < w.heap.size := block_lt h.b
/-- the records' row stepped on, then laid in its cell -/
theorem Sx.putR (h : Sx w base gx ver rv vv rs vs F) (hB : Bld recordO w2 base 72 v2 rs2 F2) (ip : InPl w w2 base rv v2 F F2) :
    (Blk w2 gx 34 [.int .i64 ver, rv, vv]) ∧ Sx (w2.setCell ⟨gx, 1, none⟩ v2) base gx ver v2 vv rs2 vs F2 := by
  obtain ⟨_, k2, k3, k4, k5⟩ := ip
  have hlt := h.lt
  have b2 : Blk w2 gx 34 [.int .i64 ver, rv, vv] := h.b.keep (k2 gx hlt h.nr)
  have nF2 : gx ∉ F2 := fun hm => by
    rcases k4 gx hm with e | e
    · exact h.nF e
    · omega
  have nr2 : v2.ownBlock ≠ some gx := fun e => by
    rcases k5 gx e with e | e
    · exact h.nr e
    · omega
  have hv2 : Bld verdictO w2 base 74 vv vs [] := h.r.v.keepO (fun b hb => by cases hb) fun g hg => k2 g (h.r.v.lt.2 g hg).1 fun e => (h.r.ap g hg).2 e
  refine ⟨b2, ⟨Blk.store (done := [.int .i64 ver]) (rest := [vv]) b2 rfl v2, ⟨hB.kp (Kp.set gx 1 v2 w2) nF2 nr2, hv2.kp (Kp.set gx 1 v2 w2) (fun e => by cases e) h.nv, fun g hg => ⟨fun hm => ?_, fun e => ?_⟩⟩, nF2, nr2, h.nv, h.hb⟩⟩
  · rcases k4 g hm with e | e
    · exact (h.r.ap g hg).1 e
    · have := (h.r.v.lt.2 g hg).1; omega
  · rcases k5 g e with e | e
    · exact (h.r.ap g hg).2 e
    · have := (h.r.v.lt.2 g hg).1; omega
/-- the verdicts' row stepped on -/
theorem Sx.inV (h : Sx w base gx ver rv vv rs vs F) (hB : Bld verdictO w2 base 74 v2 vs2 []) (k2 : ∀ b, b < w.heap.size → vv.ownBlock ≠ some b → w2.heap[b]? = w.heap[b]?) (k5 : ∀ g, v2.ownBlock = some g → vv.ownBlock = some g ∨ w.heap.size ≤ g) :
    (Blk w2 gx 34 [.int .i64 ver, rv, vv]) ∧ Rows2 w2 base rv v2 rs vs2 F ∧ v2.ownBlock ≠ some gx := by
  have hlt := h.lt
  have b2 : Blk w2 gx 34 [.int .i64 ver, rv, vv] := h.b.keep (k2 gx hlt h.nv)
  have nv2 : v2.ownBlock ≠ some gx := fun e => by
    rcases k5 gx e with e | e
    · exact h.nv e
    · omega
  have hr2 : Bld recordO w2 base 72 rv rs F := h.r.r.keepO (fun b hb => k2 b (h.r.r.lt.1 b hb) fun e => (h.r.ap b e).1 hb) fun g hg => k2 g (h.r.r.lt.2 g hg).1 fun e => (h.r.ap g e).2 hg
  refine ⟨b2, ⟨hr2, hB, fun g hg => ⟨fun hm => ?_, fun e => ?_⟩⟩, nv2⟩
  · rcases k5 g hg with e | e
    · exact (h.r.ap g e).1 hm
    · have := h.r.r.lt.1 g hm; omega
  · rcases k5 g hg with e2 | e2
    · exact (h.r.ap g e2).2 e
    · have := (h.r.r.lt.2 g e).1; omega
theorem Sx.putV (h : Sx w base gx ver rv vv rs vs F) (hB : Bld verdictO w2 base 74 v2 vs2 []) (k2 : ∀ b, b < w.heap.size → vv.ownBlock ≠ some b → w2.heap[b]? = w.heap[b]?) (k5 : ∀ g, v2.ownBlock = some g → vv.ownBlock = some g ∨ w.heap.size ≤ g) :
    (Blk w2 gx 34 [.int .i64 ver, rv, vv]) ∧ Sx (w2.setCell ⟨gx, 2, none⟩ v2) base gx ver rv v2 rs vs2 F := by
  obtain ⟨b2, r2, n2⟩ := h.inV hB k2 k5
  exact ⟨b2, ⟨Blk.store (done := [.int .i64 ver, rv]) (rest := []) b2 rfl v2, r2.kp (Kp.set gx 2 v2 w2) h.nF h.nr n2, h.nF, h.nr, n2, h.hb⟩⟩
theorem Sx.setVer (h : Sx w base gx ver rv vv rs vs F) (ver2 : Int) : Sx (w.setCell ⟨gx, 0, none⟩ (.int .i64 ver2)) base gx ver2 rv vv rs vs F :=
  ⟨Blk.store (done := []) (rest := [rv, vv]) h.b rfl _, h.r.kp (Kp.set gx 0 _ w) h.nF h.nr h.nv, h.nF, h.nr, h.nv, h.hb⟩
theorem Sx.at_ (h : Sx w base gx ver rv vv rs vs F) (hI : I64 ver) : StoAt w (.agg #[.int .i64 ver, rv, vv]) ⟨ver, rs, vs⟩ := ⟨_, _, rfl, hI, h.r.r.sl, h.r.v.sl⟩
/-- rows just made -/
theorem Sx.new {wa : World} (h : Rows2 wa base rv vv rs vs F) (hb : base ≤ wa.heap.size) : Sx (wa.alloc (.cells #[.int .i64 ver, rv, vv] 34)) base wa.heap.size ver rv vv rs vs F := by
  refine ⟨Blk.new wa 34 #[.int .i64 ver, rv, vv], h.ext ((Ext.refl wa).alloc _), fun hm => ?_, fun e => ?_, fun e => ?_, hb⟩
  · have := h.r.lt.1 _ hm; omega
  · have := (h.r.lt.2 _ e).1; omega
  · have := (h.v.lt.2 _ e).1; omega
theorem InPl.fresh (x : Ext w w2) (hB : Bld recordO w2 w.heap.size 72 v2 rs2 F2) (base : Nat) (rv : Value) (F : List Nat) : InPl w w2 base rv v2 F F2 := by
  refine ⟨fun _ _ h => h.trans x, fun b hb _ => x.block hb, x.size, fun b hb => .inr ?_, fun g hg => .inr (hB.lt.2 g hg).2⟩
  obtain ⟨_, _, _, _, _, h5⟩ := hB
  exact h5 b hb
end

/-! ### What ApplyBatch answers -/
noncomputable def upR (rs : List Record) (o : Op) : List Record := if o.kind = 1 then putR rs o.record else rs
def upV (vs : List Verdict) (o : Op) : List Verdict := if o.kind = 3 then vs ++ [o.verdict] else vs
def dnR (rs : List Record) (o : Op) : List Record := if o.kind = 2 then delR rs o.record else rs
noncomputable def dnV (vs : List Verdict) (o : Op) : List Verdict := if o.kind = 4 then vs.filter (fun x => !eqB x o.verdict) else vs
noncomputable def newSto (s : Store) (b : Batch) : Store := ⟨s.version + 1, b.ops.foldl dnR (b.ops.foldl upR s.records), compV (sortS (b.ops.foldl dnV (b.ops.foldl upV s.verdicts)))⟩
noncomputable def appB (s : Store) (b : Batch) : Store × Bool := if okSto s = true ∧ okBat b = true ∧ okSto (newSto s b) = true then (newSto s b, true) else (s, false)
theorem fold_step {α β : Type} (f : β → α → β) (a : β) (xs : List α) (k : Nat) (h : k < xs.length) : (xs.take (k + 1)).foldl f a = f ((xs.take k).foldl f a) xs[k] := by
  rw [List.take_succ_eq_append_getElem h, List.foldl_append]; rfl
/-- behind k operations: in order, no more than k more -/
theorem upR_ok {s : Store} {b : Batch} (h : okSto s = true) (hb : okBat b = true) : ∀ k, k ≤ b.ops.length → RAsc ((b.ops.take k).foldl upR s.records) ∧ (∀ x ∈ (b.ops.take k).foldl upR s.records, okRec x = true) ∧ ((b.ops.take k).foldl upR s.records).length ≤ 8 + k
  | 0, _ => by
    unfold okSto at h
    simp only [Bool.and_eq_true, decide_eq_true_eq] at h
    obtain ⟨h1, h2⟩ := recsOK_iff.1 h.1.1.1
    exact ⟨h2, h1, by simpa using h.1.2⟩
  | k + 1, hk => by
    obtain ⟨i1, i2, i3⟩ := upR_ok h hb k (by omega)
    have hop : okOp (b.ops[k]'(by omega)) = true := by
      unfold okBat at hb
      rw [Bool.and_eq_true] at hb
      exact List.all_eq_true.1 hb.2 _ (List.getElem_mem _)
    rw [fold_step upR _ _ k (by omega)]
    unfold upR
    split
    · rename_i hkind
      rw [okOp_1 hkind, Bool.and_eq_true] at hop
      refine ⟨putR_asc i1, fun x hx => ?_, by have := putR_len ((b.ops.take k).foldl upR s.records) (b.ops[k]'(by omega)).record; unfold upR at this i3; omega⟩
      rcases putR_mem hx with rfl | hx
      · exact hop.1
      · exact i2 x hx
    · exact ⟨i1, i2, by unfold upR at i3; omega⟩
theorem upV_len (vs : List Verdict) : ∀ ops : List Op, (ops.foldl upV vs).length ≤ vs.length + ops.length
  | [] => by simp
  | o :: ops => by
    have := upV_len (upV vs o) ops
    have h1 : (upV vs o).length ≤ vs.length + 1 := by unfold upV; split <;> simp
    simp only [List.foldl_cons, List.length_cons]; omega
theorem dnV_len (vs : List Verdict) : ∀ ops : List Op, (ops.foldl dnV vs).length ≤ vs.length
  | [] => by simp
  | o :: ops => by
    have := dnV_len (dnV vs o) ops
    have h1 : (dnV vs o).length ≤ vs.length := by
      unfold dnV
      split
      · exact List.length_filter_le _ _
      · exact Nat.le_refl _
    simp only [List.foldl_cons]; omega
theorem dnR_sub (rs : List Record) : ∀ ops : List Op, (ops.foldl dnR rs).Sublist rs
  | [] => by simp
  | o :: ops => by
    have h1 : (dnR rs o).Sublist rs := by
      unfold dnR
      split
      · exact List.filter_sublist
      · exact List.Sublist.refl _
    exact (dnR_sub (dnR rs o) ops).trans h1
end Go.Proofs.YtfcbapaojoecgaaGreat

namespace Go.Proofs.YtfcbapaojoecgaaGreat
open Go.RowKit

theorem ownsRow_lt {w : World} {base n : Nat} {e : TypeId} {m : Nat} {v : Value} {cs : List Value} (h : w.ownsRow base e n v m cs) : ∀ g, v.ownBlock = some g → g < w.heap.size ∧ base ≤ g := fun g hg => by
  rcases h.2 with ⟨rfl, _⟩ | ⟨g', cap, cur, rfl, hb, hh, _⟩
  · cases hg
  · injection hg with hg
    subst hg
    exact ⟨block_lt hh, hb⟩
theorem step_appq {P : Program} {ops : Array Oper} {o : Oper} {a : Act} {w : World} {K : Act → World → Prop} {Q : Exit → Act → World → Prop} {Z : Prop} {t e : TypeId} {bytes : Nat} (E : ElemT P t e 4 bytes) (hby : bytes ≤ 128)
    (hgd : o.guard = none) (s x : Operand) (ho : o.op = .call { callee := .builtin .append, args := #[s, x], argTypes := #[t, t] })
    {base m : Nat} {v : Value} {cs : List Value} (hb : w.ownsRow base e 4 v m cs) (hs : a.eval s = v) {A : Option Addr} {n k : Nat} (hx : a.eval x = .slice A n k) {news : List Value} (hl : news.length = n * 4)
    (hc : 0 < n → ∃ ad, A = some ad ∧ ∀ j u, news[j]? = some u → w.cell? (ad.add j) = some u) (h1 : ∀ u ∈ news, u.oneCell' = true)
    (hbytes : m + n ≤ 1099511627776) (hbase : base ≤ w.heap.size) {w0 : World} (h0 : w0.heap.size ≤ base) (hx0 : Ext w0 w)
    (h : ∀ v' w', w'.ownsRow base e 4 v' (m + n) (cs ++ news) → Ext w0 w' → (∀ b, b < w.heap.size → v.ownBlock ≠ some b → w'.heap[b]? = w.heap[b]?) → K (a.put o.dst v') w') :
    if Region.wanted o (yielded ops a.tmps) = true then Oper.wp P o a w K Q else Z := by
  have hw : Region.wanted o (yielded ops a.tmps) = true := by simp [Region.wanted, hgd]
  rw [if_pos hw]
  obtain ⟨ht, i, z, hi, hz, hsize, hby2, hzs⟩ := E
  by_cases hm : 0 < n
  · obtain ⟨ad, rfl, hcc⟩ := hc hm
    refine wp_append_lies w s x t ho base e i z 4 bytes ht hi hz hsize hby2 hzs (by decide) v m cs hs hb ad n k news hx hl hcc h1 hm (by unfold maxLen; omega)
      (Nat.le_trans (Nat.mul_le_mul (show m + n ≤ 1099511627776 by omega) hby) (by decide)) hbase w.heap.size rfl ?_
    intro g' cap w' hown hgr _ _
    exact h _ _ hown (hx0.grown hgr fun g hg => Nat.le_trans h0 (ownsRow_lt hb g hg).2) fun b hb2 hne => hgr.block b hb2 (fun e => hne e.symm)
  · have hn0 : n = 0 := by omega
    subst hn0
    have hys : news = [] := List.eq_nil_of_length_eq_zero (by omega)
    subst hys
    have hb0 := hb
    have hr : (Builtin.append_ #[t, t] o.type #[v, .slice A 0 k]).run P w = .ok v w := by
      rcases hb.2 with ⟨rfl, _⟩ | ⟨g, cap, cur, rfl, _, _, hnc, _⟩
      · cases A <;> simp [Builtin.append_, run_underlying ht, sizeOf, typeInfo, hi, Builtin.lenOf, Builtin.firstCells, storeCells, loadCells, loadCellsFrom]
      · cases A <;> simp [Builtin.append_, run_underlying ht, sizeOf, typeInfo, hi, Builtin.lenOf, Builtin.firstCells, hnc, storeCells, loadCells, loadCellsFrom]
    unfold Oper.wp execOp
    simp only [ho, resolve, invoke, builtin, Sem.run_bind, Sem.run_pure, Result.andThen_ok, List.map_toArray, List.map_cons, List.map_nil, hs, hx, hr]
    exact h v w (by rw [List.append_nil]; exact hb0) hx0 fun _ _ _ => rfl
/-- the element at place k left out -/
theorem OwnCells.erase {α : Type} {R : RepO α} {w : World} {xs : List α} {cs : List Value} {F : List Nat} {k : Nat} (h : OwnCells R w cs xs F) (hk : k < xs.length) :
    ∃ F2, OwnCells R w (cs.take (k * R.n) ++ cs.drop ((k + 1) * R.n)) (xs.eraseIdx k) F2 ∧ F2.Sublist F := by
  obtain ⟨F0, F1, e, k0, _⟩ := h.cut k (by omega)
  obtain ⟨G0, G1, e2, k1, k2⟩ := h.cut (k + 1) (by omega)
  obtain ⟨H0, H1, e3, j0, j1⟩ := k1.cut k (by rw [List.length_take]; omega)
  refine ⟨H0 ++ G1, ?_, ?_⟩
  · rw [List.eraseIdx_eq_take_drop_succ]
    refine OwnCells.append ?_ k2
    have t1 : (xs.take (k + 1)).take k = xs.take k := by rw [List.take_take]; congr 1; omega
    have t2 : (cs.take ((k + 1) * R.n)).take (k * R.n) = cs.take (k * R.n) := by rw [List.take_take]; congr 1; exact Nat.min_eq_left (Nat.mul_le_mul_right _ (by omega))
    rw [t1, t2] at j0
    exact j0
  · rw [e2, e3, List.append_assoc]
    exact (List.sublist_append_right H1 G1).append_left H0 
theorem recs_one1 {w : World} {xs : List Record} {cs : List Value} {F : List Nat} (h : OwnCells recordO w cs xs F) : ∀ u ∈ cs, u.oneCell' = true := recs_one h
theorem vers_one1 {w : World} : ∀ {xs : List Verdict} {cs : List Value} {F : List Nat}, OwnCells verdictO w cs xs F → ∀ u ∈ cs, u.oneCell' = true
  | [], _, _, h, u, hu => by rw [h.1] at hu; cases hu
  | x :: xs, _, _, ⟨c, d, F1, F2, h1, _, ⟨⟨h2, _⟩, _⟩, h4⟩, u, hu => by
    rw [h1] at hu
    rcases List.mem_append.1 hu with hu | hu
    · rw [h2] at hu
      exact one_ver x.a x.b x.same x.time u hu
    · exact vers_one1 h4 u hu
/-- a row that is owned, one element to be left out of a copy -/
theorem del_row {α : Type} {R : RepO α} (hR : R.n = 4) {w : World} {base : Nat} {e : TypeId} {rv : Value} {xs : List α} {F : List Nat} (h1 : ∀ {cs : List Value}, OwnCells R w cs xs F → ∀ u ∈ cs, u.oneCell' = true) (hB : Bld R w base e rv xs F) {k : Nat} (hk : k < xs.length) :
    ∃ (g cap : Nat) (cs : List Value), rv = .slice (some ⟨g, 0, none⟩) xs.length cap ∧ (xs.length ≤ cap ∧ cap ≤ maxLen) ∧ cs.length = xs.length * 4 ∧ (∀ W, Ext w W → ∀ i u, cs[i]? = some u → W.cell? ⟨g, i, none⟩ = some u) ∧ (∀ u ∈ cs, u.oneCell' = true) ∧
      ∀ W v2, W.ownsRow w.heap.size e 4 v2 (k + (xs.length - (k + 1))) (cs.take (k * 4) ++ cs.drop ((k + 1) * 4)) → Ext w W → base ≤ w.heap.size → ∃ F2, Bld R W base e v2 (xs.eraseIdx k) F2 ∧ InPl w W base rv v2 F F2 := by
  have hlt := hB.lt
  obtain ⟨cs, q1, q2, q3, q4, q5⟩ := hB
  rw [hR] at q1
  rcases ownsRow_q q1 with ⟨_, h0, _⟩ | ⟨g, row, e0, hbg, hRow, hnr, hm, hcs⟩
  · omega
  · refine ⟨g, row.length, cs, e0, ⟨hnr, hm⟩, q1.1, fun W y i u hi => ?_, h1 q2, fun W v2 hown y hb => ?_⟩
    · have h2 := (hRow.ext y)
      rw [cell_of_row W g _ _ e (0, 0) h2, List.getElem?_toArray]
      rw [hcs, flatQ_take, List.getElem?_take] at hi
      split at hi
      · exact hi
      · cases hi
    · obtain ⟨F2, k1, k2⟩ := q2.erase hk
      rw [hR] at k1
      have hF2 : ∀ b ∈ F2, b ∈ F := fun b hb2 => k2.subset hb2
      refine ⟨F2, ⟨cs.take (k * 4) ++ cs.drop ((k + 1) * 4), ?_, k1.keep fun b hb2 => y.block (hlt.1 b (hF2 b hb2)), fun g2 hg2 hm2 => ?_, q4.sublist k2, fun b hb2 => q5 b (hF2 b hb2)⟩, fun w0 h0 hx => hx.trans y, fun b hb2 _ => y.block hb2, y.size, fun b hb2 => .inl (hF2 b hb2), fun g2 hg2 => .inr (ownsRow_lt hown g2 hg2).2⟩
      · have hl : (xs.eraseIdx k).length = k + (xs.length - (k + 1)) := by rw [List.length_eraseIdx, if_pos hk]; omega
        rw [hl, hR]
        refine ⟨hown.1, ?_⟩
        rcases hown.2 with h | ⟨g', cap, cur, e1, e2, e3⟩
        · exact .inl h
        · exact .inr ⟨g', cap, cur, e1, Nat.le_trans hb e2, e3⟩
      · have h3 := (ownsRow_lt hown g2 hg2).2
        have h4 := hlt.1 g2 (hF2 g2 hm2)
        omega
theorem keep_then {w w9 w10 : World} {b : Nat} (hb : b < w.heap.size) (k : w9.heap[b]? = w.heap[b]?) (x : Ext w9 w10) : w10.heap[b]? = w.heap[b]? ∧ b < w9.heap.size := by
  have h2 : b < w9.heap.size := by
    rcases Nat.lt_or_ge b w9.heap.size with h | h
    · exact h
    · rw [Array.getElem?_eq_none h] at k
      have := Array.getElem?_eq_none_iff.1 k.symm
      omega
  exact ⟨(x.block h2).trans k, h2⟩
theorem ownsRow_lit {W : World} {base g : Nat} {e : TypeId} (hb : base ≤ g) (h : W.heap[g]? = some (.cells #[] e (0, 0))) : W.ownsRow base e 4 (.slice (some ⟨g, 0, none⟩) 0 0) 0 [] :=
  ⟨by simp, .inr ⟨g, 0, #[], rfl, hb, h, Nat.le_refl _, Nat.zero_le _, by simp, by simp⟩⟩
end Go.Proofs.YtfcbapaojoecgaaGreat

namespace Go.Proofs.YtfcbapaojoecgaaGreat
open Go.RowKit

theorem Bld.of_q {α : Type} {R : RepO α} {w : World} {base g n : Nat} {e : TypeId} {xs : List α} {F : List Nat} {row : List Q4} (hR4 : R.n = 4) (hn : n = xs.length) (hb : base ≤ g) (h : RowQ w g e row) (hnr : n ≤ row.length) (hm : row.length ≤ maxLen) (ho : OwnCells R w (flatQ (row.take n)) xs F) (hg : g ∉ F) (hF : F.Nodup) (h5 : ∀ b ∈ F, base ≤ b) :
    Bld R w base e (.slice (some ⟨g, 0, none⟩) n row.length) xs F := by
  subst hn
  have := ownsRow_of_q (base := base) hb h hnr hm
  exact ⟨_, by rw [hR4]; exact this, ho, fun g2 hg2 => by injection hg2 with hg2; subst hg2; exact hg, hF, h5⟩
theorem InPl.of_kp {w w2 : World} {base g n cap m cap2 : Nat} {F F2 : List Nat} (k : Kp g w w2) (hx : ∀ w0 : World, w0.heap.size ≤ g → Ext w0 w → Ext w0 w2) (hb : base ≤ g) (hF : ∀ b ∈ F2, b ∈ F) :
    InPl w w2 base (.slice (some ⟨g, 0, none⟩) n cap) (.slice (some ⟨g, 0, none⟩) m cap2) F F2 :=
  ⟨fun w0 h0 h1 => hx w0 (Nat.le_trans h0 hb) h1, fun b hb2 hv => k.2 b hb2 fun e => hv (by rw [e]; rfl), k.1, fun b hb2 => .inl (hF b hb2), fun g2 h2 => .inl h2⟩

set_option maxHeartbeats 1000000 in
theorem del_recs (rv : Value) (rs : List Record) (F : List Nat) (o : Op) (fo : Value) (g2 base : Nat) (w : World) (hB : Bld recordO w base 72 rv rs F) (hc : OpCells w g2 o fo) (hlt : g2 < w.heap.size) (hne : rv.ownBlock ≠ some g2) (hl : rs.length ≤ 1000) :
    Calls Tryz.prog 48 #[rv, .func (.func 49) #[] #[.pointer (some ⟨g2, 0, none⟩)]] w fun e w2 => ∃ v2 F2, e = .returned v2 ∧ Bld recordO w2 base 72 v2 (delR rs o.record) F2 ∧ InPl w w2 base rv v2 F F2 := by
  have hB0 := hB
  obtain ⟨cs, q1, q2, q3, q4, q5⟩ := hB
  rcases ownsRow_q q1 with ⟨rfl, h0, _⟩ | ⟨g, row, rfl, hbg, hR, hnr, hm, rfl⟩
  · have : rs = [] := List.eq_nil_of_length_eq_zero h0
    subst this
    refine (DeleteFunc_nilr _ _ w).mono ?_
    rintro e w2 ⟨rfl, x2⟩
    exact ⟨_, F, rfl, hB0.ext x2, InPl.ext x2 _ _ _⟩
  · have hrl : (row.take rs.length).length = rs.length := by rw [List.length_take]; omega
    have hgF := q3 g rfl
    have hgg : g2 ≠ g := fun e => hne (by rw [e]; rfl)
    obtain ⟨sh1, sh2⟩ := recs_shape q2 hrl
    refine (DeleteFunc_qr g rs.length row (rP fun x => delP o.record x) _ _ w hR hnr (by omega) hm sh1 (fun _ _ => by kernel_rfl) (fun W q hq k => ?_)).mono ?_
    · obtain ⟨s, key, t, A, m, c, rfl⟩ := sh1 q hq
      have hW : OpCells W g2 o fo := by
        have hb := k.2 g2 hlt hgg
        have hcell : ∀ i, W.cell? ⟨g2, i, none⟩ = w.cell? ⟨g2, i, none⟩ := fun i => cell_of_same hb i
        unfold OpCells
        simp only [hcell]
        exact hc
      exact impl_ApplyBatch_1 ⟨s, key, t, []⟩ (.slice A m c) fo o g2 W hW
    · rintro e w2 ⟨row2, m, rfl, r1, r2, r3, r4, r5, r6, r7⟩
      obtain ⟨F2, s1, s2⟩ := sh2 (fun x => delP o.record x) (fun x => delP_f _ _)
      have hml : m = (delR rs o.record).length := by
        have := s2.length
        rw [flatQ_len] at this
        have h4 : recordO.n = 4 := rfl
        rw [h4] at this
        rw [r3]; unfold delR; omega
      have hF2 : ∀ b ∈ F2, b ∈ F := fun b hb => s1.subset hb
      refine ⟨_, F2, rfl, ?_, InPl.of_kp r6 r7 hbg hF2⟩
      rw [← r2]
      refine Bld.of_q rfl hml hbg r1 (by omega) (by omega) ?_ (fun h => hgF (hF2 g h)) (q4.sublist s1) fun b hb => q5 b (hF2 b hb)
      rw [r5]
      refine s2.keep fun b hb => ?_
      exact r6.2 b ((hB0.lt).1 b (hF2 b hb)) fun e => hgF (e ▸ hF2 b hb)

set_option maxHeartbeats 1000000 in
theorem del_vers (rv : Value) (rs : List Verdict) (o : Op) (fo : Value) (g2 base : Nat) (w : World) (hB : Bld verdictO w base 74 rv rs []) (hc : OpCells w g2 o fo) (hlt : g2 < w.heap.size) (hne : rv.ownBlock ≠ some g2) (hl : rs.length ≤ 1000) :
    Calls Tryz.prog 51 #[rv, .func (.func 52) #[] #[.pointer (some ⟨g2, 0, none⟩)]] w fun e w2 => ∃ v2, e = .returned v2 ∧ Bld verdictO w2 base 74 v2 (rs.filter fun x => !eqB x o.verdict) [] ∧ InPl w w2 base rv v2 [] [] := by
  have hB0 := hB
  obtain ⟨cs, q1, q2, q3, q4, q5⟩ := hB
  rcases ownsRow_q q1 with ⟨rfl, h0, _⟩ | ⟨g, row, rfl, hbg, hR, hnr, hm, rfl⟩
  · have : rs = [] := List.eq_nil_of_length_eq_zero h0
    subst this
    refine (DeleteFunc_nilv _ _ w).mono ?_
    rintro e w2 ⟨rfl, x2⟩
    exact ⟨_, rfl, hB0.ext x2, InPl.ext x2 _ _ _⟩
  · obtain ⟨hq, hoks⟩ := vers_shape q2
    have hgg : g2 ≠ g := fun e => hne (by rw [e]; rfl)
    refine (DeleteFunc_qv g rs.length row (vP fun x => eqB x o.verdict) _ _ w hR hnr (by omega) hm (by rw [hq]; exact vers_verq rs) (fun _ _ => by kernel_rfl) (fun W q hq2 k => ?_)).mono ?_
    · rw [hq] at hq2
      obtain ⟨x, _, rfl⟩ := List.mem_map.1 hq2
      have hW : OpCells W g2 o fo := by
        have hb := k.2 g2 hlt hgg
        have hcell : ∀ i, W.cell? ⟨g2, i, none⟩ = w.cell? ⟨g2, i, none⟩ := fun i => cell_of_same hb i
        unfold OpCells
        simp only [hcell]
        exact hc
      exact impl_ApplyBatch_2 x fo o g2 W hW
    · rintro e w2 ⟨row2, m, rfl, r1, r2, r3, r4, r5, r6, r7⟩
      rw [hq, vfilter (fun x => eqB x o.verdict)] at r3 r5
      rw [List.length_map] at r3
      refine ⟨_, rfl, ?_, InPl.of_kp r6 r7 hbg fun b hb => hb⟩
      rw [← r2]
      refine Bld.of_q rfl r3 hbg r1 (by omega) (by omega) ?_ (fun h => by cases h) List.nodup_nil fun b hb => by cases hb
      rw [r5]
      exact vers_ownq _ (fun x hx => hoks x (List.mem_filter.1 hx).1) _

theorem sort_vers (rv : Value) (rs : List Verdict) (base : Nat) (w : World) (hB : Bld verdictO w base 74 rv rs []) (hl : rs.length ≤ 1000) :
    Calls Tryz.prog 53 #[rv, .func (.func 54) #[] #[]] w fun e w2 => e = .returned (.tuple #[]) ∧ Bld verdictO w2 base 74 rv (sortS rs) [] ∧ InPl w w2 base rv rv [] [] := by
  have hB0 := hB
  obtain ⟨cs, q1, q2, q3, q4, q5⟩ := hB
  rcases ownsRow_q q1 with ⟨rfl, h0, _⟩ | ⟨g, row, rfl, hbg, hR, hnr, hm, rfl⟩
  · have : rs = [] := List.eq_nil_of_length_eq_zero h0
    subst this
    refine Calls.mono (AnyF.slices_SortFunc_none lShSortV none 0 (.func (.func 54) #[] #[]) w) ?_
    rintro e w2 ⟨rfl, rfl⟩
    exact ⟨rfl, hB0, InPl.refl _ _ _ _⟩
  · obtain ⟨hq, hoks⟩ := vers_shape q2
    refine (slices_SortFunc_q g rs.length rs row w hR hnr (by omega) hq).mono ?_
    rintro e w2 ⟨row2, rfl, r1, r2, r3, r4, r5⟩
    refine ⟨rfl, ?_, InPl.of_kp r4 r5 hbg fun b hb => hb⟩
    rw [← r2]
    refine Bld.of_q rfl (sortS_len rs).symm hbg r1 (by omega) (by omega) ?_ (fun h => by cases h) List.nodup_nil fun b hb => by cases hb
    rw [r3]
    exact vers_ownq _ (fun x hx => hoks x ((sortS_perm rs).mem_iff.1 hx)) _

set_option maxHeartbeats 400000 in
theorem slices_Compact_nil (w : World) :
    Calls Tryz.prog 55 #[.slice none 0 0] w fun e w2 => e = .returned (.slice none 0 0) ∧ w = w2 := by
  go_enter Tryz.func55, Tryz.ntmps55
  go_wp2
  go_ret
  exact ⟨rfl, rfl⟩
theorem comp_vers (rv : Value) (rs : List Verdict) (base : Nat) (w : World) (hB : Bld verdictO w base 74 rv rs []) (hl : rs.length ≤ 1000) :
    Calls Tryz.prog 55 #[rv] w fun e w2 => ∃ v2, e = .returned v2 ∧ Bld verdictO w2 base 74 v2 (compV rs) [] ∧ InPl w w2 base rv v2 [] [] := by
  have hB0 := hB
  obtain ⟨cs, q1, q2, q3, q4, q5⟩ := hB
  rcases ownsRow_q q1 with ⟨rfl, h0, _⟩ | ⟨g, row, rfl, hbg, hR, hnr, hm, rfl⟩
  · have : rs = [] := List.eq_nil_of_length_eq_zero h0
    subst this
    refine (slices_Compact_nil w).mono ?_
    rintro e w2 ⟨rfl, rfl⟩
    exact ⟨_, rfl, hB0, InPl.refl _ _ _ _⟩
  · obtain ⟨hq, hoks⟩ := vers_shape q2
    refine (slices_Compact_q g rs.length rs row w hR hnr (by omega) hm hq).mono ?_
    rintro e w2 ⟨row2, m, rfl, r1, r2, r3, r4, r5, r6, r7⟩
    refine ⟨_, rfl, ?_, InPl.of_kp r6 r7 hbg fun b hb => hb⟩
    rw [← r2]
    refine Bld.of_q rfl r3 hbg r1 (by omega) (by omega) ?_ (fun h => by cases h) List.nodup_nil fun b hb => by cases hb
    rw [r5]
    exact vers_ownq _ (fun x hx => hoks x (compV_mem.1 hx)) _
end Go.Proofs.YtfcbapaojoecgaaGreat

namespace Go.Proofs.YtfcbapaojoecgaaGreat
open Go.RowKit

theorem fold_inv {α β : Type} (I : β → Prop) (f g : β → α → β) : ∀ (ops : List α) (b : β), I b → (∀ o ∈ ops, ∀ b, I b → f b o = g b o ∧ I (g b o)) → ops.foldl f b = ops.foldl g b ∧ I (ops.foldl g b)
  | [], b, h, _ => ⟨rfl, h⟩
  | o :: ops, b, h, k => by
    obtain ⟨e, i⟩ := k o (List.mem_cons_self ..) b h
    rw [List.foldl_cons, List.foldl_cons, e]
    exact fold_inv I f g ops _ i fun o ho => k o (List.mem_cons_of_mem _ ho)

/-! ### One deletion -/
theorem delP_id {o r : Record} (ho : okH o = true) (hr : okH r = true) : delP o r = (decide (recID r = recID o) && decide (r.version ≤ o.version)) := by
  have h : cmpO r o = 0 ↔ recID r = recID o := by rw [cmpO_zero, recID_same hr ho]
  exact congrArg (fun c => c && decide (r.version ≤ o.version)) (decide_eq_decide.2 h)
theorem filter_keep {α : Type} {p : α → Bool} {xs : List α} (h : ∀ x ∈ xs, p x = true) : xs.filter p = xs := List.filter_eq_self.2 h
theorem delF_eq {xs : List Record} {o : Record} (h : RAsc xs) (hx : ∀ x ∈ xs, okH x = true) (ho : okH o = true) : delF xs o = delR xs o := by
  unfold delF delR
  rcases idxF_lt (fun r => recID r == recID o) xs 0 with ⟨e, k⟩ | ⟨j, hj, e, hj2, k⟩
  · rw [e, if_neg (by omega)]
    refine (filter_keep fun x hm => ?_).symm
    rw [delP_id ho (hx x hm)]
    have := k x hm
    rw [beq_eq_false_iff_ne] at this
    simp [this]
  · have he : recID xs[j] = recID o := by simpa using k
    rw [e, Nat.zero_add, Int.toNat_natCast, rAt_at hj]
    have hsplit : xs = xs.take j ++ xs[j] :: xs.drop (j + 1) := by rw [List.getElem_cons_drop, List.take_append_drop]
    have hp := h
    unfold RAsc at hp
    rw [hsplit] at hp
    obtain ⟨_, p2, p3⟩ := List.pairwise_append.1 hp
    have p4 := (List.pairwise_cons.1 p2).1
    have k1 : (xs.take j).filter (fun r => !delP o r) = xs.take j := filter_keep fun x hm => by
      rw [delP_id ho (hx x (List.mem_of_mem_take hm))]
      have := p3 x hm xs[j] (List.mem_cons_self ..)
      have hn : ¬ recID x = recID o := by omega
      simp [hn]
    have k2 : (xs.drop (j + 1)).filter (fun r => !delP o r) = xs.drop (j + 1) := filter_keep fun x hm => by
      rw [delP_id ho (hx x (List.mem_of_mem_drop hm))]
      have := p4 x hm
      have hn : ¬ recID x = recID o := by omega
      simp [hn]
    have k3 : xs.filter (fun r => !delP o r) = xs.take j ++ [xs[j]].filter (fun r => !delP o r) ++ xs.drop (j + 1) := by
      conv => lhs; rw [hsplit]
      rw [List.filter_append, List.filter_cons, k1]
      rw [k2]
      cases hd : delP o xs[j] <;> simp [hd]
    rw [k3]
    have hdp := delP_id ho (hx _ (List.getElem_mem hj))
    by_cases hv : xs[j].version ≤ o.version
    · rw [if_pos ⟨by omega, hv⟩]
      have : delP o xs[j] = true := by rw [hdp]; simp [he, hv]
      simp [this, erase_take, List.eraseIdx_eq_take_drop_succ]
    · rw [if_neg (fun c => hv c.2)]
      have : delP o xs[j] = false := by rw [hdp]; simp [hv]
      have e2 : [xs[j]].filter (fun r => !delP o r) = [xs[j]] := by simp [this]
      rw [e2, List.append_assoc]
      exact hsplit

/-! ### All operations -/
noncomputable def upR2 (rs : List Record) (o : Op) : List Record := if o.kind = 1 then putF rs o.record else rs
noncomputable def upV2 (vs : List Verdict) (o : Op) : List Verdict := if o.kind = 3 ∧ idxV vs o.verdict < 0 then sortS (vs ++ [o.verdict]) else vs
def dnR2 (rs : List Record) (o : Op) : List Record := if o.kind = 2 then delF rs o.record else rs
noncomputable def dnV2 (vs : List Verdict) (o : Op) : List Verdict := if o.kind = 4 ∧ 0 ≤ idxV vs o.verdict then vs.eraseIdx (idxV vs o.verdict).toNat else vs
noncomputable def newSto2 (s : Store) (b : Batch) : Store := ⟨s.version + 1, b.ops.foldl dnR2 (b.ops.foldl upR2 s.records), b.ops.foldl dnV2 (b.ops.foldl upV2 s.verdicts)⟩
def GoodR (rs : List Record) : Prop := RAsc rs ∧ ∀ x ∈ rs, okRec x = true
theorem okBat_ops {b : Batch} (hb : okBat b = true) : b.ops.length ≤ 6 ∧ ∀ o ∈ b.ops, okOp o = true := by
  unfold okBat at hb
  rw [Bool.and_eq_true, decide_eq_true_eq] at hb
  exact ⟨hb.1, fun o ho => List.all_eq_true.1 hb.2 o ho⟩
theorem okSto_all {s : Store} (hs : okSto s = true) : GoodR s.records ∧ Asc s.verdicts ∧ (∀ x ∈ s.verdicts, okV x = true) ∧ 0 ≤ s.version ∧ s.version ≤ 999 ∧ s.records.length ≤ 8 ∧ s.verdicts.length ≤ 8 := by
  unfold okSto at hs
  simp only [Bool.and_eq_true, decide_eq_true_eq] at hs
  obtain ⟨h1, h2⟩ := recsOK_iff.1 hs.1.1.1
  obtain ⟨a1, a2, a3⟩ := areVers_asc hs.2
  have hv := hs.1.1.2
  unfold inB at hv
  simp only [Bool.and_eq_true, decide_eq_true_eq] at hv
  exact ⟨⟨h2, h1⟩, a1, a2, hv.1, hv.2, hs.1.2, a3⟩
theorem okSto_of {s : Store} (h1 : GoodR s.records) (h2 : areVers s.verdicts = true) (h3 : 0 ≤ s.version ∧ s.version ≤ 999) (h4 : s.records.length ≤ 8) : okSto s = true := by
  unfold okSto inB
  simp only [Bool.and_eq_true, decide_eq_true_eq]
  exact ⟨⟨⟨recsOK_iff.2 ⟨h1.2, h1.1⟩, h3⟩, h4⟩, h2⟩
theorem upR_good {rs : List Record} {o : Op} (h : GoodR rs) (ho : okOp o = true) : upR2 rs o = upR rs o ∧ GoodR (upR rs o) := by
  unfold upR upR2
  split
  · rename_i hk
    rw [okOp_1 hk, Bool.and_eq_true] at ho
    refine ⟨putF_eq h.1 (fun x hx => okH_of (h.2 x hx)) (okH_of ho.1), putR_asc h.1, fun x hx => ?_⟩
    rcases putR_mem hx with rfl | hx
    · exact ho.1
    · exact h.2 x hx
  · exact ⟨rfl, h⟩
theorem dnR_good {rs : List Record} {o : Op} (h : GoodR rs) (ho : okOp o = true) : dnR2 rs o = dnR rs o ∧ GoodR (dnR rs o) := by
  unfold dnR dnR2
  split
  · rename_i hk
    rw [okOp_2 hk, Bool.and_eq_true] at ho
    exact ⟨delF_eq h.1 (fun x hx => okH_of (h.2 x hx)) (okH_gone ho.1), delR_asc h.1, fun x hx => h.2 x (List.mem_filter.1 hx).1⟩
  · exact ⟨rfl, h⟩
theorem asc_nil : Asc [] := asc_pw.2 List.Pairwise.nil
theorem upV2_asc {vs : List Verdict} {o : Op} (h : Asc vs) : Asc (upV2 vs o) ∧ ∀ x, x ∈ upV2 vs o ↔ x ∈ vs ∨ (o.kind = 3 ∧ x = o.verdict) := by
  unfold upV2
  rcases idxV_cases vs o.verdict with ⟨e, hn⟩ | ⟨j, hj, e, hm⟩
  · by_cases hk : o.kind = 3
    · rw [if_pos ⟨hk, by rw [e]; decide⟩]
      refine ⟨sortS_asc (List.nodup_append.2 ⟨asc_nodup h, by simp, fun a ha b hb he => hn ?_⟩), fun x => ?_⟩
      · rw [List.mem_singleton] at hb; rw [← hb, ← he]; exact ha
      · rw [(sortS_perm _).mem_iff, List.mem_append, List.mem_singleton]
        exact ⟨fun h => h.imp id fun h => ⟨hk, h⟩, fun h => h.imp id fun h => h.2⟩
    · rw [if_neg (fun c => hk c.1)]
      exact ⟨h, fun x => ⟨.inl, fun c => c.elim id fun c => absurd c.1 hk⟩⟩
  · rw [if_neg (by rw [e]; omega)]
    refine ⟨h, fun x => ⟨.inl, fun c => c.elim id fun c => ?_⟩⟩
    rw [c.2, ← hm]
    exact List.getElem_mem hj
theorem dnV2_asc {vs : List Verdict} {o : Op} (h : Asc vs) : Asc (dnV2 vs o) ∧ ∀ x, x ∈ dnV2 vs o ↔ x ∈ vs ∧ ¬ (o.kind = 4 ∧ x = o.verdict) := by
  unfold dnV2
  rcases idxV_cases vs o.verdict with ⟨e, hn⟩ | ⟨j, hj, e, hm⟩
  · rw [if_neg (by rw [e]; omega)]
    exact ⟨h, fun x => ⟨fun hx => ⟨hx, fun c => hn (c.2 ▸ hx)⟩, fun c => c.1⟩⟩
  · by_cases hk : o.kind = 4
    · rw [if_pos ⟨hk, by rw [e]; omega⟩, e, Int.toNat_natCast]
      refine ⟨asc_pw.2 ((asc_pw.1 h).sublist (List.eraseIdx_sublist ..)), fun x => ?_⟩
      have hnd := asc_nodup h
      have hsplit : vs = vs.take j ++ vs[j] :: vs.drop (j + 1) := by rw [List.getElem_cons_drop, List.take_append_drop]
      rw [hsplit] at hnd
      obtain ⟨_, n2, n3⟩ := List.nodup_append.1 hnd
      have n4 := List.nodup_cons.1 n2
      rw [List.eraseIdx_eq_take_drop_succ, List.mem_append]
      constructor
      · rintro (hx | hx)
        · exact ⟨List.mem_of_mem_take hx, fun c => n3 x hx vs[j] (List.mem_cons_self ..) (by rw [hm]; exact c.2)⟩
        · exact ⟨List.mem_of_mem_drop hx, fun c => n4.1 (by rw [hm, ← c.2]; exact hx)⟩
      · rintro ⟨hx, c⟩
        rw [hsplit] at hx
        rcases List.mem_append.1 hx with hx | hx
        · exact .inl hx
        · rcases List.mem_cons.1 hx with hx | hx
          · exact absurd ⟨hk, by rw [hx, hm]⟩ c
          · exact .inr hx
    · rw [if_neg (fun c => hk c.1)]
      exact ⟨h, fun x => ⟨fun hx => ⟨hx, fun c => hk c.1⟩, fun c => c.1⟩⟩
theorem upV2_all : ∀ (ops : List Op) (vs : List Verdict), Asc vs → Asc (ops.foldl upV2 vs) ∧ ∀ x, x ∈ ops.foldl upV2 vs ↔ x ∈ vs ∨ ∃ o ∈ ops, o.kind = 3 ∧ x = o.verdict
  | [], vs, h => ⟨h, fun x => by simp⟩
  | o :: ops, vs, h => by
    obtain ⟨h1, h2⟩ := upV2_asc (o := o) h
    obtain ⟨h3, h4⟩ := upV2_all ops _ h1
    refine ⟨h3, fun x => ?_⟩
    rw [List.foldl_cons, h4, h2, or_assoc]
    simp only [List.mem_cons, exists_eq_or_imp]
theorem dnV2_all : ∀ (ops : List Op) (vs : List Verdict), Asc vs → Asc (ops.foldl dnV2 vs) ∧ ∀ x, x ∈ ops.foldl dnV2 vs ↔ x ∈ vs ∧ ∀ o ∈ ops, ¬ (o.kind = 4 ∧ x = o.verdict)
  | [], vs, h => ⟨h, fun x => by simp⟩
  | o :: ops, vs, h => by
    obtain ⟨h1, h2⟩ := dnV2_asc (o := o) h
    obtain ⟨h3, h4⟩ := dnV2_all ops _ h1
    refine ⟨h3, fun x => ?_⟩
    rw [List.foldl_cons, h4, h2, and_assoc]
    simp only [List.mem_cons, forall_eq_or_imp]
theorem upV_all : ∀ (ops : List Op) (vs : List Verdict) (x : Verdict), x ∈ ops.foldl upV vs ↔ x ∈ vs ∨ ∃ o ∈ ops, o.kind = 3 ∧ x = o.verdict
  | [], vs, x => by simp
  | o :: ops, vs, x => by
    have : x ∈ upV vs o ↔ x ∈ vs ∨ (o.kind = 3 ∧ x = o.verdict) := by
      unfold upV
      split
      · rename_i h; simp [h]
      · rename_i h; simp [h]
    rw [List.foldl_cons, upV_all ops, this, or_assoc]
    simp only [List.mem_cons, exists_eq_or_imp]
theorem dnV_all : ∀ (ops : List Op) (vs : List Verdict) (x : Verdict), x ∈ ops.foldl dnV vs ↔ x ∈ vs ∧ ∀ o ∈ ops, ¬ (o.kind = 4 ∧ x = o.verdict)
  | [], vs, x => by simp
  | o :: ops, vs, x => by
    have : x ∈ dnV vs o ↔ x ∈ vs ∧ ¬ (o.kind = 4 ∧ x = o.verdict) := by
      unfold dnV
      split
      · rename_i h
        rw [List.mem_filter]
        have : (!eqB x o.verdict) = true ↔ ¬ x = o.verdict := by
          rw [← eqB_iff x o.verdict]
          cases eqB x o.verdict <;> simp
        rw [this]; simp [h]
      · rename_i h; simp [h]
    rw [List.foldl_cons, dnV_all ops, this, and_assoc]
    simp only [List.mem_cons, forall_eq_or_imp]
theorem newV_eq {vs : List Verdict} (h : Asc vs) (ops : List Op) : ops.foldl dnV2 (ops.foldl upV2 vs) = compV (sortS (ops.foldl dnV (ops.foldl upV vs))) := by
  obtain ⟨h1, h2⟩ := upV2_all ops vs h
  obtain ⟨h3, h4⟩ := dnV2_all ops _ h1
  refine asc_ext h3 (compV_asc (sortS_sorted _)) fun x => ?_
  rw [h4, h2, compV_mem, (sortS_perm _).mem_iff, dnV_all, upV_all]
theorem newR_eq {rs : List Record} (h : GoodR rs) {ops : List Op} (ho : ∀ o ∈ ops, okOp o = true) : ops.foldl dnR2 (ops.foldl upR2 rs) = ops.foldl dnR (ops.foldl upR rs) ∧ GoodR (ops.foldl upR rs) ∧ GoodR (ops.foldl dnR (ops.foldl upR rs)) := by
  obtain ⟨e1, i1⟩ := fold_inv GoodR upR2 upR ops rs h fun o hm b hb => upR_good hb (ho o hm)
  obtain ⟨e2, i2⟩ := fold_inv GoodR dnR2 dnR ops _ i1 fun o hm b hb => dnR_good hb (ho o hm)
  rw [e1]
  exact ⟨e2, i1, i2⟩
theorem newSto2_eq {s : Store} {b : Batch} (hs : okSto s = true) (hb : okBat b = true) : newSto2 s b = newSto s b := by
  obtain ⟨g, a, _⟩ := okSto_all hs
  unfold newSto2 newSto
  rw [(newR_eq g (okBat_ops hb).2).1, newV_eq a]
theorem newSto_999 {s : Store} {b : Batch} (h : s.version = 999) : okSto (newSto s b) = false := by
  unfold okSto newSto inB
  simp [h]
/-- behind k operations, as the reference goes -/
theorem upR2_ok {s : Store} {b : Batch} (h : okSto s = true) (hb : okBat b = true) (k : Nat) (hk : k ≤ b.ops.length) : (b.ops.take k).foldl upR2 s.records = (b.ops.take k).foldl upR s.records :=
  (fold_inv GoodR upR2 upR (b.ops.take k) s.records (okSto_all h).1 fun o hm bb hbb => upR_good hbb ((okBat_ops hb).2 o (List.mem_of_mem_take hm))).1
end Go.Proofs.YtfcbapaojoecgaaGreat

namespace Go.Proofs.YtfcbapaojoecgaaGreat
open Go.RowKit

theorem InPl.of_app {wr W w9 : World} {base : Nat} {v v9 : Value} {F G : List Nat} (x : Ext wr W) (hE : ∀ w0 : World, w0.heap.size ≤ base → Ext w0 W → Ext w0 w9)
    (hK : ∀ F' : List Nat, (∀ b ∈ F', b < W.heap.size) → (∀ b ∈ F', v.ownBlock ≠ some b) → (∀ b ∈ F', w9.heap[b]? = W.heap[b]?) ∧ ∀ b ∈ F', v9.ownBlock ≠ some b) (hG : ∀ b ∈ G, wr.heap.size ≤ b)
    (hz : ∃ b, b + 1 = W.heap.size ∧ v.ownBlock ≠ some b) : InPl wr w9 base v v9 F (F ++ G) := by
  have one : ∀ b, b < W.heap.size → v.ownBlock ≠ some b → w9.heap[b]? = W.heap[b]? ∧ v9.ownBlock ≠ some b := fun b hb hv => by
    obtain ⟨k1, k2⟩ := hK [b] (fun c hc => by rw [List.mem_singleton] at hc; rw [hc]; exact hb) (fun c hc => by rw [List.mem_singleton] at hc; rw [hc]; exact hv)
    exact ⟨k1 b (List.mem_singleton.2 rfl), k2 b (List.mem_singleton.2 rfl)⟩
  refine ⟨fun w0 h0 h => hE w0 h0 (h.trans x), fun b hb hv => ((one b (Nat.lt_of_lt_of_le hb x.size) hv).1).trans (x.block hb), ?_, fun b hb => ?_, fun g hg => ?_⟩
  · obtain ⟨b, hb, hv⟩ := hz
    have h1 := (one b (by omega) hv).1
    have h2 : b < w9.heap.size := by
      rcases Nat.lt_or_ge b w9.heap.size with h | h
      · exact h
      · rw [Array.getElem?_eq_none h] at h1
        have := Array.getElem?_eq_none_iff.1 h1.symm
        omega
    have := x.size
    omega
  · rcases List.mem_append.1 hb with h | h
    · exact .inl h
    · exact .inr (hG b h)
  · rcases Nat.lt_or_ge g wr.heap.size with hlt | hge
    · left
      apply Classical.byContradiction
      intro hne
      exact (one g (Nat.lt_of_lt_of_le hlt x.size) hne).2 hg
    · exact .inr hge
theorem one_rec (a b c : Int) (A : Option Addr) (n k : Nat) : ∀ u ∈ (#[Value.int .i64 a, .int .i64 b, .int .i64 c, .slice A n k] : Array Value).toList, u.oneCell' = true := by simp [Value.oneCell']

set_option maxHeartbeats 4000000 in
set_option maxRecDepth 20000 in
theorem spec_l30Copy (v : Value) (s : Store) (w : World) (h : StoAt w v s) (hb : msRecs s.records ≤ 1048576) (hb2 : s.verdicts.length ≤ 1048576) :
    Calls Tryz.prog 34 #[v] w (StoNew w s · ·) := by
  obtain ⟨r, d, rfl, hI, hr, hd⟩ := h
  obtain ⟨Ao, co, rfl, _⟩ := hr.form
  have xw : Ext w ((w.alloc (.cells #[.int .i64 s.version, .slice Ao s.records.length co, d] 34)).alloc (.cells #[.int .i64 0, .slice none 0 0, .slice none 0 0] 34)) := ((Ext.refl w).alloc _).alloc _
  have bR := Blk.new (w.alloc (.cells #[.int .i64 s.version, .slice Ao s.records.length co, d] 34)) 34 #[.int .i64 0, .slice none 0 0, .slice none 0 0]
  rw [World.size_alloc] at bR
  have bP := (Blk.new w 34 #[.int .i64 s.version, .slice Ao s.records.length co, d]).ext ((Ext.refl _).alloc (.cells #[.int .i64 0, .slice none 0 0, .slice none 0 0] 34))
  obtain ⟨W0, hW0⟩ : ∃ W0, W0 = (w.alloc (.cells #[.int .i64 s.version, .slice Ao s.records.length co, d] 34)).alloc (.cells #[.int .i64 0, .slice none 0 0, .slice none 0 0] 34) := ⟨_, rfl⟩
  have hsz : W0.heap.size = w.heap.size + 1 + 1 := by rw [hW0]; simp
  rw [← hW0] at bR bP xw
  have HP := hid (show ∀ W, Ext W0 W → W.cell? ⟨w.heap.size, 0, none⟩ = some (.int .i64 s.version) ∧ W.cell? ⟨w.heap.size, 1, none⟩ = some (.slice Ao s.records.length co) ∧ W.cell? ⟨w.heap.size, 2, none⟩ = some d from fun W y => ⟨(bP.ext y).cells.1 0, (bP.ext y).cells.1 1, (bP.ext y).cells.1 2⟩)
  have HR := hid (show ∀ W, Ext W0 W → Blk W (w.heap.size + 1) 34 [.int .i64 0, .slice none 0 0, .slice none 0 0] from fun W y => bR.ext y)
  have HS := hid hsz
  have HX := hid xw
  have hI0 := hid hI
  clear bR bP hsz xw hI
  go_enter Tryz.func34, Tryz.ntmps34
  go_wp2_with fail
  rw [← hW0]
  clear hW0
  go_region_held3 (fun w' => w'.cell? ⟨w.heap.size, 0, none⟩ = some (.int .i64 s.version) ∧ w'.cell? ⟨w.heap.size, 1, none⟩ = some (.slice Ao s.records.length co) ∧ w'.cell? ⟨w.heap.size, 2, none⟩ = some d) (exact HP.out _ (by repeat (first | with_reducible exact Ext.refl _ | with_reducible assumption | with_reducible refine Ext.drew ?_ | with_reducible refine Ext.alloc ?_ _ | (refine Ext.setCell ?_ (by simp) _) | with_reducible refine Ext.trans ?_ (by with_reducible assumption))))
    (first
      | (go_at_call 81; refine (spec_l28CopyB _ s.verdicts _ (hd.mono (HX.out.trans (by repeat (first | with_reducible exact Ext.refl _ | with_reducible assumption | with_reducible refine Ext.drew ?_ | with_reducible refine Ext.alloc ?_ _ | with_reducible refine Ext.trans ?_ (by with_reducible assumption))))) hb2).mono ?_; rintro e wb ⟨vb, rfl, bb, xb⟩; obtain ⟨Ab, cb, eb, _⟩ := bb.sl.form; subst eb; (first | (have b8 := (Blk.new (World.drew W0) 34 #[.int .i64 0, .slice none 0 0, .slice none 0 0]).ext xb; have c80 : wb.cell? ⟨W0.heap.size, 0, none⟩ = some (.int .i64 0) := b8.cells.1 0; have c81 : wb.cell? ⟨W0.heap.size, 1, none⟩ = some (.slice none 0 0) := b8.cells.1 1; have c82 : wb.cell? ⟨W0.heap.size, 2, none⟩ = some (.slice none 0 0) := b8.cells.1 2; have f8 : ∀ i, wb.frozen? ⟨W0.heap.size, i, none⟩ = false := b8.cells.2) | skip)))
  all_goals
    first
      | (have hS0 : ∃ gx, gx = wb.heap.size ∧ Sx (wb.alloc (.cells #[.int .i64 s.version, .slice none 0 0, .slice Ab s.verdicts.length cb] 34)) W0.heap.size gx s.version (.slice none 0 0) (.slice Ab s.verdicts.length cb) [] s.verdicts [] :=
           ⟨_, rfl, Sx.new (ver := s.version) (rv := .slice none 0 0) (rs := []) (F := []) (Rows2.mk (Bld.nil wb W0.heap.size 72) bb (fun _ _ => ⟨(fun h => by cases h), (fun h => by cases h)⟩)) xb.size⟩
         have xs0 : Ext W0 (wb.alloc (.cells #[.int .i64 s.version, .slice none 0 0, .slice Ab s.verdicts.length cb] 34)) := ((Ext.refl W0).drew.trans xb).alloc _
         obtain ⟨Wx, hWx⟩ : ∃ Wx, Wx = (wb.alloc (.cells #[.int .i64 s.version, .slice none 0 0, .slice Ab s.verdicts.length cb] 34)) := ⟨_, rfl⟩
         rw [← hWx] at hS0 xs0 ⊢
         obtain ⟨gx, hgx, hS0⟩ := hS0
         rw [← hgx])
      | (have hS0 : ∃ gx, gx = W0.heap.size ∧ Sx (((wb.setCell ⟨W0.heap.size, 0, none⟩ (.int .i64 s.version)).setCell ⟨W0.heap.size, 1, none⟩ (.slice none 0 0)).setCell ⟨W0.heap.size, 2, none⟩ (.slice Ab s.verdicts.length cb)) W0.heap.size gx s.version (.slice none 0 0) (.slice Ab s.verdicts.length cb) [] s.verdicts [] := by
           have hsz0 : (W0.alloc (.cells #[.int .i64 0, .slice none 0 0, .slice none 0 0] 34)).drew.heap.size = W0.heap.size + 1 := by show (World.alloc _ _).heap.size = _; simp
           have hne : (Value.slice Ab s.verdicts.length cb).ownBlock ≠ some W0.heap.size := fun e => by
             have h1 := (bb.lt.2 _ e).2
             omega
           exact ⟨_, rfl, Blk.store3 b8 _ _ _, (Rows2.mk (Bld.nil wb W0.heap.size 72) (bb.lowv (by omega)) (fun _ _ => ⟨(fun h => by cases h), (fun h => by cases h)⟩)).kp (Kp.store3 W0.heap.size 0 _ _ _ _) (fun h => by cases h) (fun h => by cases h) hne, (fun h => by cases h), (fun h => by cases h), hne, Nat.le_refl _⟩
         have xs0 : Ext W0 (((wb.setCell ⟨W0.heap.size, 0, none⟩ (.int .i64 s.version)).setCell ⟨W0.heap.size, 1, none⟩ (.slice none 0 0)).setCell ⟨W0.heap.size, 2, none⟩ (.slice Ab s.verdicts.length cb)) := Ext.store3 ((((Ext.refl W0).alloc _).drew).trans xb) (Nat.le_refl _) _ _ _
         clear c80 c81 c82 f8 b8
         obtain ⟨Wx, hWx⟩ : ∃ Wx, Wx = (((wb.setCell ⟨W0.heap.size, 0, none⟩ (.int .i64 s.version)).setCell ⟨W0.heap.size, 1, none⟩ (.slice none 0 0)).setCell ⟨W0.heap.size, 2, none⟩ (.slice Ab s.verdicts.length cb)) := ⟨_, rfl⟩
         rw [← hWx] at hS0 xs0 ⊢
         obtain ⟨gx, hgx, hS0⟩ := hS0
         rw [← hgx])
    clear hWx hgx bb xb
    obtain ⟨q0, q1, q2⟩ := HP.out _ xs0
    go_wp2_with fail
    go_loopw [4] (fun i wr => ∃ (k : Nat) (rv : Value) (F : List Nat), k ≤ s.records.length ∧ i = .int .i64 k ∧ Sx wr W0.heap.size gx s.version rv (.slice Ab s.verdicts.length cb) (s.records.take k) s.verdicts F ∧ Ext W0 wr) (fun i _ => s.records.length - (intOf i).toNat)
    case atStart => exact ⟨0, _, _, Nat.zero_le _, rfl, hS0, xs0⟩
    case round =>
      clear hS0 xs0 q0 q1 q2
      obtain ⟨k, rv, F, hk, rfl, hS, hx⟩ := hrel
      obtain ⟨q0, q1, q2⟩ := HP.out _ hx
      obtain ⟨Ar, cr, er, _⟩ := hS.r.r.sl.form
      obtain ⟨n0, hn0⟩ : ∃ n, n = (s.records.take k).length := ⟨_, rfl⟩
      rw [← hn0] at er
      subst er
      have hn0k : n0 = k := by rw [hn0, List.length_take]; omega
      have HN0 := hid (And.intro hn0 hn0k)
      clear hn0 hn0k
      have hbase : W0.heap.size ≤ wr.heap.size := hx.size
      by_cases hlt : k < s.records.length
      · obtain ⟨b1, off, A2, cap2, eA, hok, hsl, c0, c1, c2, c3⟩ := ((hr.mono HX.out).mono hx).record hlt
        subst eA
        have hbk : s.records[k].fields.length ≤ 1048576 := by have := sumBy_at msRec s.records k hlt; simp only [msRec] at this; unfold msRecs at hb; omega
        have hrl : s.records.length ≤ 1048576 := by unfold msRecs at hb; omega
        go_wp2_with fail
        refine (spec_l8Copy _ s.records[k] _ ⟨_, rfl, hok, hsl⟩ (by omega)).mono ?_
        rintro e w2 ⟨v2, F2, rfl, ⟨f2, rfl, _, o2⟩, n2, x2⟩
        obtain ⟨A3, c3', e3, _⟩ := o2.form
        subst e3
        have x5 : Ext w2 (w2.alloc (.cells #[.int .i64 s.records[k].source, .int .i64 s.records[k].key, .int .i64 s.records[k].version, .slice A3 s.records[k].fields.length c3'] 72)) := (Ext.refl w2).alloc _
        have hz5 : w2.heap.size + 1 = (w2.alloc (.cells #[.int .i64 s.records[k].source, .int .i64 s.records[k].key, .int .i64 s.records[k].version, .slice A3 s.records[k].fields.length c3'] 72)).heap.size := by simp
        have hS5 := hS.ext (x2.trans x5)
        have HS5 := hid hS5
        have HS := hid hS
        have HO5 := hid (o2.ext x5)
        have HK5 := hid hok
        have HX5 := hid (x2.trans x5)
        have HZ5 := hid hz5
        have HNV := hid (show (Value.slice Ar n0 cr).ownBlock ≠ some w2.heap.size from fun e => by have := (hS.r.r.lt.2 _ e).1; have := x2.size; omega)
        have HFR := hid (show (∀ b ∈ F2, b ∉ F ∧ (Value.slice Ar n0 cr).ownBlock ≠ some b) ∧ F2.Nodup ∧ ∀ b ∈ F2, W0.heap.size ≤ b from ⟨fun b hb2 => ⟨fun h => by have := hS.r.r.lt.1 b h; have := n2.2 b hb2; omega, fun e => by have := (hS.r.r.lt.2 b e).1; have := n2.2 b hb2; omega⟩, n2.1, fun b hb2 => Nat.le_trans hbase (n2.2 b hb2)⟩)
        have HN2 := hid n2
        have hb5 : W0.heap.size ≤ (w2.alloc (.cells #[.int .i64 s.records[k].source, .int .i64 s.records[k].key, .int .i64 s.records[k].version, .slice A3 s.records[k].fields.length c3'] 72)).heap.size := Nat.le_trans hbase (x2.trans x5).size
        have hlen5 : (s.records.take k).length + 1 ≤ 1099511627776 := by rw [List.length_take]; omega
        have HL5 := hid hlen5
        obtain ⟨⟨g0, g1, g2⟩, gf⟩ := hS5.cells
        have HHB := hid hS.hb
        clear q0 q1 q2 c0 c1 c2 c3 hok hsl hS hS5 hz5 n2 o2 hlen5 hbk
        go_wp2_with (at_builtin; refine wpList_app1k (R := recordO) elemRec (by decide) rfl _ _ rfl HS5.out.r.r rfl _ 1 rfl (by simp) (one_rec _ _ _ _ _ _) (y := s.records[k]) (G := F2) ⟨_, rfl, HK5.out, HO5.out⟩ HFR.out HL5.out (by decide) hb5 ?_; intro v9 w9 hB9 hE9 hK9; have ip9 := InPl.of_app (F := F) HX5.out hE9 hK9 HN2.out.2 ⟨_, HZ5.out, HNV.out⟩; obtain ⟨A9, c9, e9, _⟩ := hB9.sl.form; obtain ⟨n9, hn9⟩ : ∃ n, n = (s.records.take k ++ [s.records[k]]).length := ⟨_, rfl⟩; rw [← hn9] at e9; subst e9; obtain ⟨b9, hS9⟩ := HS.out.putR hB9 ip9; have t1 := b9.cells.1 1; have tf := b9.cells.2 1; have HS9 := hid hS9; have HX9 := hid (fun u => (ip9.1 W0 (Nat.le_refl _) hx).setCell (p := ⟨gx, 1, none⟩) HHB.out u); clear hn9 hS9 ip9 hE9 hK9 hB9 b9)
        go_roundw
        case rel => exact ⟨k + 1, _, _, by omega, by go_num, by rw [List.take_succ_eq_append_getElem hlt]; exact HS9.out, HX9.out _⟩
        case measure => simp [intOf]; omega
      · have htk : s.records.take k = s.records := List.take_of_length_le (by omega)
        rw [htk] at hS
        have bz := HR.out _ hx
        obtain ⟨⟨z0, z1, z2⟩, zf⟩ := (⟨⟨bz.cells.1 0, bz.cells.1 1, bz.cells.1 2⟩, bz.cells.2⟩ : (_ ∧ _ ∧ _) ∧ _)
        obtain ⟨⟨g0, g1, g2⟩, gf⟩ := hS.cells
        have b9 := Blk.store3 bz (.int .i64 s.version) (.slice Ar n0 cr) (.slice Ab s.verdicts.length cb)
        have r0 := b9.cells.1 0
        have r1 := b9.cells.1 1
        have r2 := b9.cells.1 2
        have hs2 := HS.out
        have HFIN := hid (show StoNew w s (.returned (.agg #[.int .i64 s.version, .slice Ar n0 cr, .slice Ab s.verdicts.length cb])) (((wr.setCell ⟨w.heap.size + 1, 0, none⟩ (.int .i64 s.version)).setCell ⟨w.heap.size + 1, 1, none⟩ (.slice Ar n0 cr)).setCell ⟨w.heap.size + 1, 2, none⟩ (.slice Ab s.verdicts.length cb)) from by
          obtain ⟨n1, n2⟩ := hS.r.r.below (g := w.heap.size + 1) (by omega)
          obtain ⟨_, n3⟩ := hS.r.v.below (g := w.heap.size + 1) (by omega)
          exact ⟨_, _, F, rfl, (hS.r.kp (Kp.store3 (w.heap.size + 1) 0 _ _ _ _) n1 n2 n3).low (by omega), hI0.out, Ext.store3 (HX.out.trans hx) (by omega) _ _ _⟩)
        clear b9 bz hS htk
        go_wp2
        refine bodyPost_ret (v := .agg #[.int .i64 s.version, .slice Ar n0 cr, .slice Ab s.verdicts.length cb]) (by simp [results, Tryz.results34, go_sem, r0, r1, r2]) rfl ?_
        exact HFIN.out
end Go.Proofs.YtfcbapaojoecgaaGreat

namespace Go.Proofs.YtfcbapaojoecgaaGreat
open Go.RowKit

theorem inB_cases {x a b : Int} (h : inB x a b = true) : a ≤ x ∧ x ≤ b := by
  unfold inB at h
  simpa using h
theorem okRec_len {r : Record} (h : okRec r = true) : r.fields.length = 4 := by
  unfold okRec at h
  simp only [Bool.and_eq_true, beq_iff_eq] at h
  omega
/-- a call's answer: a store in new memory, and whether -/
def AppOut (w : World) (e : Ending) (w2 : World) (r : Store × Bool) : Prop := ∃ rv vv F, e = .returned (.tuple #[.agg #[.int .i64 r.1.version, rv, vv], .bool r.2]) ∧ Rows2 w2 w.heap.size rv vv r.1.records r.1.verdicts F ∧ I64 r.1.version ∧ Ext w w2
theorem appB_no {s : Store} {b : Batch} (h : ¬ (okSto s = true ∧ okBat b = true ∧ okSto (newSto s b) = true)) : appB s b = (s, false) := by unfold appB; rw [if_neg h]
theorem appB_yes {s : Store} {b : Batch} (h : okSto s = true ∧ okBat b = true ∧ okSto (newSto s b) = true) : appB s b = (newSto s b, true) := by unfold appB; rw [if_pos h]

set_option maxHeartbeats 8000000 in
set_option maxRecDepth 100000 in
theorem impl_ApplyBatch (v u : Value) (s : Store) (b : Batch) (w : World) (h : StoAt w v s) (k : BatAt w u b) (hms : msRecs s.records ≤ 1048576) (hmv : s.verdicts.length ≤ 1048576) :
    Calls Tryz.prog 11 #[v, u] w (AppOut w · · (appB s b)) := by
  obtain ⟨r, d, rfl, hI, hr, hd⟩ := h
  obtain ⟨o, rfl, _, ho⟩ := k
  obtain ⟨Ao, co, rfl, _⟩ := ho.form
  have xw : Ext w (((w.alloc (.cells #[.int .i64 s.version, r, d] 34)).alloc (.cells #[.slice Ao b.ops.length co] 40)).alloc (.cells #[.int .i64 0, .slice none 0 0, .slice none 0 0] 34)) := (((Ext.refl w).alloc _).alloc _).alloc _
  have bZ := Blk.new ((w.alloc (.cells #[.int .i64 s.version, r, d] 34)).alloc (.cells #[.slice Ao b.ops.length co] 40)) 34 #[.int .i64 0, .slice none 0 0, .slice none 0 0]
  have bB := (Blk.new (w.alloc (.cells #[.int .i64 s.version, r, d] 34)) 40 #[.slice Ao b.ops.length co]).ext ((Ext.refl _).alloc (.cells #[.int .i64 0, .slice none 0 0, .slice none 0 0] 34))
  have bS := (Blk.new w 34 #[.int .i64 s.version, r, d]).ext (((Ext.refl _).alloc (.cells #[.slice Ao b.ops.length co] 40)).alloc (.cells #[.int .i64 0, .slice none 0 0, .slice none 0 0] 34))
  obtain ⟨W3, hW3⟩ : ∃ W3, W3 = ((w.alloc (.cells #[.int .i64 s.version, r, d] 34)).alloc (.cells #[.slice Ao b.ops.length co] 40)).alloc (.cells #[.int .i64 0, .slice none 0 0, .slice none 0 0] 34) := ⟨_, rfl⟩
  have hsz : W3.heap.size = w.heap.size + 1 + 1 + 1 := by rw [hW3]; simp
  simp only [World.size_alloc] at bZ bB
  rw [← hW3] at bZ bB bS xw
  have HBX := hid (show ∀ W, Ext W3 W → (W.cell? ⟨w.heap.size, 0, none⟩ = some (.int .i64 s.version) ∧ W.cell? ⟨w.heap.size, 1, none⟩ = some r ∧ W.cell? ⟨w.heap.size, 2, none⟩ = some d) ∧ W.cell? ⟨w.heap.size + 1, 0, none⟩ = some (.slice Ao b.ops.length co) from fun W y => ⟨⟨(bS.ext y).cells.1 0, (bS.ext y).cells.1 1, (bS.ext y).cells.1 2⟩, (bB.ext y).cells.1 0⟩)
  have HZ := hid (show ∀ W, Ext W3 W → Blk W (w.heap.size + 1 + 1) 34 [.int .i64 0, .slice none 0 0, .slice none 0 0] from fun W y => bZ.ext y)
  have HAT := hid (show ∀ W, Ext W3 W → StoAt W (.agg #[.int .i64 s.version, r, d]) s from fun W y => ⟨_, _, rfl, hI, (hr.mono xw).mono y, (hd.mono xw).mono y⟩)
  have HOPS := hid (show ∀ W, Ext W3 W → Sl opR W (.slice Ao b.ops.length co) b.ops from fun W y => (ho.mono xw).mono y)
  have HS := hid hsz
  have HX := hid xw
  have HI := hid hI
  clear bZ bB bS xw hsz hr hd ho hI
  go_enter Tryz.func11, Tryz.ntmps11
  go_wp2_with fail
  rw [← hW3]
  clear hW3
  refine (impl_IsValidStore _ s _ (HAT.out _ (Ext.refl _))).mono ?_
  rintro e w1 ⟨rfl, x1⟩
  cases hs : okSto s with
  | false =>
    have HNO := hid (appB_no (s := s) (b := b) fun h => by rw [hs] at h; cases h.1)
    clear hs
    obtain ⟨⟨p0, p1, p2⟩, _⟩ := HBX.out _ (x1)
    go_wp2_with fail
    refine (impl_cloneStore _ s _ (HAT.out _ (x1)) hms hmv).mono ?_
    rintro e wc ⟨rv, vv, F, rfl, R, _, xc⟩
    clear p0 p1 p2
    have hbase : W3.heap.size ≤ w1.heap.size := (Ext.size (x1))
    have R3 := R.low hbase
    clear R
    obtain ⟨Ar, cr, er, _⟩ := (R3).r.sl.form
    subst er
    obtain ⟨Av, cv, ev, _⟩ := (R3).v.sl.form
    subst ev
    have bz := HZ.out _ ((x1).trans xc)
    obtain ⟨⟨z0, z1, z2⟩, zf⟩ := (⟨⟨bz.cells.1 0, bz.cells.1 1, bz.cells.1 2⟩, bz.cells.2⟩ : (_ ∧ _ ∧ _) ∧ _)
    have b9 := Blk.store3 bz (.int .i64 s.version) (.slice Ar (s.records).length cr) (.slice Av (s.verdicts).length cv)
    have r0 := b9.cells.1 0
    have r1 := b9.cells.1 1
    have r2 := b9.cells.1 2
    have HFIN := hid (show AppOut w (.returned (.tuple #[.agg #[.int .i64 s.version, .slice Ar (s.records).length cr, .slice Av (s.verdicts).length cv], .bool false])) (((wc.setCell ⟨w.heap.size + 1 + 1, 0, none⟩ (.int .i64 s.version)).setCell ⟨w.heap.size + 1 + 1, 1, none⟩ (.slice Ar (s.records).length cr)).setCell ⟨w.heap.size + 1 + 1, 2, none⟩ (.slice Av (s.verdicts).length cv)) (appB s b) from by
      have hsz := HS.out
      obtain ⟨n1, n2⟩ := (R3).r.below (g := w.heap.size + 1 + 1) (by omega)
      obtain ⟨_, n3⟩ := (R3).v.below (g := w.heap.size + 1 + 1) (by omega)
      rw [HNO.out]
      exact ⟨_, _, _, rfl, ((R3).kp (Kp.store3 (w.heap.size + 1 + 1) 0 _ _ _ _) n1 n2 n3).low (by omega), by first | exact HI.out | exact HIV.out, Ext.store3 (HX.out.trans ((x1).trans xc)) (by omega) _ _ _⟩)
    clear b9 bz
    go_wp2
    refine bodyPost_ret (v := .tuple #[.agg #[.int .i64 s.version, .slice Ar (s.records).length cr, .slice Av (s.verdicts).length cv], .bool false]) (by simp [results, Tryz.results11, go_sem, r0, r1, r2]) rfl ?_
    exact HFIN.out
  | true =>
    obtain ⟨⟨p0, p1, p2⟩, p3⟩ := HBX.out _ x1
    go_wp2_with fail
    refine (impl_IsValidBatch _ b _ ⟨_, rfl, trivial, HOPS.out _ x1⟩).mono ?_
    rintro e w2 ⟨rfl, x2⟩
    have x12 := x1.trans x2
    clear p0 p1 p2 p3 x1 x2
    cases hbt : okBat b with
    | false =>
      have HNO := hid (appB_no (s := s) (b := b) fun h => by rw [hbt] at h; cases h.2.1)
      clear hs hbt
      obtain ⟨⟨p0, p1, p2⟩, _⟩ := HBX.out _ (x12)
      go_wp2_with fail
      refine (impl_cloneStore _ s _ (HAT.out _ (x12)) hms hmv).mono ?_
      rintro e wc ⟨rv, vv, F, rfl, R, _, xc⟩
      clear p0 p1 p2
      have hbase : W3.heap.size ≤ w2.heap.size := (Ext.size (x12))
      have R3 := R.low hbase
      clear R
      obtain ⟨Ar, cr, er, _⟩ := (R3).r.sl.form
      subst er
      obtain ⟨Av, cv, ev, _⟩ := (R3).v.sl.form
      subst ev
      have bz := HZ.out _ ((x12).trans xc)
      obtain ⟨⟨z0, z1, z2⟩, zf⟩ := (⟨⟨bz.cells.1 0, bz.cells.1 1, bz.cells.1 2⟩, bz.cells.2⟩ : (_ ∧ _ ∧ _) ∧ _)
      have b9 := Blk.store3 bz (.int .i64 s.version) (.slice Ar (s.records).length cr) (.slice Av (s.verdicts).length cv)
      have r0 := b9.cells.1 0
      have r1 := b9.cells.1 1
      have r2 := b9.cells.1 2
      have HFIN := hid (show AppOut w (.returned (.tuple #[.agg #[.int .i64 s.version, .slice Ar (s.records).length cr, .slice Av (s.verdicts).length cv], .bool false])) (((wc.setCell ⟨w.heap.size + 1 + 1, 0, none⟩ (.int .i64 s.version)).setCell ⟨w.heap.size + 1 + 1, 1, none⟩ (.slice Ar (s.records).length cr)).setCell ⟨w.heap.size + 1 + 1, 2, none⟩ (.slice Av (s.verdicts).length cv)) (appB s b) from by
        have hsz := HS.out
        obtain ⟨n1, n2⟩ := (R3).r.below (g := w.heap.size + 1 + 1) (by omega)
        obtain ⟨_, n3⟩ := (R3).v.below (g := w.heap.size + 1 + 1) (by omega)
        rw [HNO.out]
        exact ⟨_, _, _, rfl, ((R3).kp (Kp.store3 (w.heap.size + 1 + 1) 0 _ _ _ _) n1 n2 n3).low (by omega), by first | exact HI.out | exact HIV.out, Ext.store3 (HX.out.trans ((x12).trans xc)) (by omega) _ _ _⟩)
      clear b9 bz
      go_wp2
      refine bodyPost_ret (v := .tuple #[.agg #[.int .i64 s.version, .slice Ar (s.records).length cr, .slice Av (s.verdicts).length cv], .bool false]) (by simp [results, Tryz.results11, go_sem, r0, r1, r2]) rfl ?_
      exact HFIN.out
    | true =>
      have hv : 0 ≤ s.version ∧ s.version ≤ 999 ∧ s.verdicts.length ≤ 8 := by
        have h1 := hs
        unfold okSto at h1
        simp only [Bool.and_eq_true, decide_eq_true_eq] at h1
        have h2 := inB_cases h1.1.1.2
        have h3 := (areVers_asc h1.2).2.2
        omega
      have hn6 : b.ops.length ≤ 6 := by
        have h1 := hbt
        unfold okBat at h1
        simp only [Bool.and_eq_true, decide_eq_true_eq] at h1
        exact h1.1
      obtain ⟨hv0, hv1, hv8⟩ := hv
      have HUP := hid (fun k (hk : k ≤ b.ops.length) => upR_ok hs hbt k hk)
      have HOK := hid (show ∀ o ∈ b.ops, okOp o = true from by
        have h1 := hbt
        unfold okBat at h1
        rw [Bool.and_eq_true] at h1
        exact fun o ho => List.all_eq_true.1 h1.2 o ho)
      have HSB := hid (And.intro hs hbt)
      clear hs hbt
      obtain ⟨⟨p0, p1, p2⟩, p3⟩ := HBX.out _ x12
      go_wp2_with fail
      refine (impl_cloneStore _ s _ (HAT.out _ x12) hms hmv).mono ?_
      rintro e wc ⟨rv, vv, F, rfl, R, _, xc⟩
      obtain ⟨Ar0, cr0, er0, _⟩ := R.r.sl.form
      subst er0
      obtain ⟨Av0, cv0, ev0, _⟩ := R.v.sl.form
      subst ev0
      have hS0 := Sx.new (ver := s.version + 1) (R.low (Ext.size x12)) (x12.trans xc).size
      have xs0 : Ext W3 (wc.alloc (.cells #[.int .i64 (s.version + 1), .slice Ar0 s.records.length cr0, .slice Av0 s.verdicts.length cv0] 34)) := (x12.trans xc).alloc _
      obtain ⟨q0, q1⟩ := HBX.out _ xs0
      clear p0 p1 p2 p3 R
      go_wp2_with fail
      obtain ⟨Wx, hWx⟩ : ∃ Wx, Wx = wc.alloc (.cells #[.int .i64 (s.version + 1), .slice Ar0 s.records.length cr0, .slice Av0 s.verdicts.length cv0] 34) := ⟨_, rfl⟩
      rw [← hWx] at hS0 xs0 q0 q1 ⊢
      obtain ⟨gx, hgx⟩ : ∃ gx, gx = wc.heap.size := ⟨_, rfl⟩
      rw [← hgx] at hS0 ⊢
      clear hWx hgx xc x12 q0 q1
      go_loopw [30] (fun i wr => ∃ (k : Nat) (rv vv : Value) (F : List Nat), k ≤ b.ops.length ∧ i = .int .i64 k ∧ Sx wr W3.heap.size gx (s.version + 1) rv vv ((b.ops.take k).foldl upR s.records) ((b.ops.take k).foldl upV s.verdicts) F ∧ Ext W3 wr) (fun i _ => b.ops.length - (intOf i).toNat)
      case atStart => exact ⟨0, _, _, _, Nat.zero_le _, rfl, hS0, xs0⟩
      case round =>
        obtain ⟨k, rv, vv, F, hk, rfl, hS, hx⟩ := hrel
        by_cases hlt : k < b.ops.length
        · obtain ⟨hup1, hup2, hup3⟩ := HUP.out k hk
          have HUR := hid (fold_step upR s.records b.ops k hlt)
          have HUV := hid (fold_step upV s.verdicts b.ops k hlt)
          have hvl := upV_len s.verdicts (b.ops.take k)
          have htl : (b.ops.take k).length ≤ 6 := by rw [List.length_take]; omega
          obtain ⟨b1, off, A2, cap2, eA, hok, hsl, c0, c1, c2, c3, c4, c5, c6, c7, c8⟩ := (HOPS.out _ hx).op hlt
          subst eA
          have hop : okOp b.ops[k] = true := HOK.out _ (List.getElem_mem hlt)
          have xb : Ext wr (wr.alloc (.cells #[.int .i64 b.ops[k].kind, .int .i64 b.ops[k].record.source, .int .i64 b.ops[k].record.key, .int .i64 b.ops[k].record.version, .slice A2 b.ops[k].record.fields.length cap2, .int .i64 b.ops[k].verdict.a, .int .i64 b.ops[k].verdict.b, .bool b.ops[k].verdict.same, .int .i64 b.ops[k].verdict.time] 76)) := (Ext.refl wr).alloc _
          have HOB := hid (show ∀ W, Ext (wr.alloc (.cells #[.int .i64 b.ops[k].kind, .int .i64 b.ops[k].record.source, .int .i64 b.ops[k].record.key, .int .i64 b.ops[k].record.version, .slice A2 b.ops[k].record.fields.length cap2, .int .i64 b.ops[k].verdict.a, .int .i64 b.ops[k].verdict.b, .bool b.ops[k].verdict.same, .int .i64 b.ops[k].verdict.time] 76)) W → W.cell? ⟨wr.heap.size, 0, none⟩ = some (.int .i64 b.ops[k].kind) ∧ OpCells W wr.heap.size b.ops[k] (.slice A2 b.ops[k].record.fields.length cap2) from fun W y => ⟨y.box.1 0, ⟨y.box.1 1, y.box.1 2, y.box.1 3, y.box.1 4⟩, y.box.1 5, y.box.1 6, y.box.1 7, y.box.1 8⟩)
          have hSb := hS.ext xb
          have hxb := hx.trans xb
          obtain ⟨Ar, cr, er, _⟩ := hS.r.r.sl.form
          subst er
          obtain ⟨Av, cv, ev, _⟩ := hS.r.v.sl.form
          subst ev
          obtain ⟨⟨g0, g1, g2⟩, gf⟩ := hSb.cells
          by_cases h1 : b.ops[k].kind = 1
          · have e1 : (b.ops[k].kind == 1) = true := by simp [h1]
            have hrec : okRec b.ops[k].record = true := by
              rw [okOp_1 h1, Bool.and_eq_true] at hop
              exact hop.1
            have HPUT := hid (impl_put _ _ _ F b.ops[k].record W3.heap.size (wr.alloc (.cells #[.int .i64 b.ops[k].kind, .int .i64 b.ops[k].record.source, .int .i64 b.ops[k].record.key, .int .i64 b.ops[k].record.version, .slice A2 b.ops[k].record.fields.length cap2, .int .i64 b.ops[k].verdict.a, .int .i64 b.ops[k].verdict.b, .bool b.ops[k].verdict.same, .int .i64 b.ops[k].verdict.time] 76)) hSb.r.r ⟨_, rfl, hok.2.1, hsl.mono xb⟩ hup1 (fun x hx => okH_of (hup2 x hx)) (okH_of hrec) (by omega) (by have := okRec_len hrec; omega) hxb.size)
            have HST := hid (show upR ((b.ops.take k).foldl upR s.records) b.ops[k] = putR ((b.ops.take k).foldl upR s.records) b.ops[k].record ∧ upV ((b.ops.take k).foldl upV s.verdicts) b.ops[k] = ((b.ops.take k).foldl upV s.verdicts) from ⟨by unfold upR; rw [if_pos h1], by unfold upV; rw [if_neg (by omega)]⟩)
            clear hup1 hup2 h1 hop hrec hok hsl
            go_wp2_with fail
            refine HPUT.out.mono ?_
            rintro e w5 ⟨v2, F2, rfl, hB2, ip⟩
            obtain ⟨Ar2, cr2, er2, _⟩ := hB2.sl.form
            subst er2
            obtain ⟨b5, hS5⟩ := hSb.putR hB2 ip
            have x5 := ip.1 W3 (Nat.le_refl _) hxb
            have t1 := b5.cells.1 1
            have tf := b5.cells.2 1
            have HS5 := hid hS5
            have HX5 := hid (x5.setCell (p := ⟨gx, 1, none⟩) hS.hb (.slice Ar2 (putR ((b.ops.take k).foldl upR s.records) b.ops[k].record).length cr2))
            clear hS5 x5 b5 ip hB2 g0 g1 g2 gf hSb hS
            go_wp2
            go_roundw
            case rel => exact ⟨k + 1, _, _, F2, by omega, by go_num, by rw [HUR.out, HUV.out, HST.out.1, HST.out.2]; exact HS5.out, HX5.out⟩
            case measure => simp [intOf]; omega
          · have e1 : (b.ops[k].kind == 1) = false := by simp [h1]
            by_cases h3 : b.ops[k].kind = 3
            · have e3 : (b.ops[k].kind == 3) = true := by simp [h3]
              have HST := hid (show upR ((b.ops.take k).foldl upR s.records) b.ops[k] = ((b.ops.take k).foldl upR s.records) ∧ upV ((b.ops.take k).foldl upV s.verdicts) b.ops[k] = ((b.ops.take k).foldl upV s.verdicts) ++ [b.ops[k].verdict] from ⟨by unfold upR; rw [if_neg h1], by unfold upV; rw [if_pos h3]⟩)
              have HVO := hid hok.2.2
              have HSb := hid hSb
              have HHB := hid hS.hb
              clear hup1 hup2 h1 h3 hop hok hsl
              go_wp2_with (at_builtin; refine wpList_app1k (R := verdictO) elemVer (by decide) rfl _ _ rfl HSb.out.r.v rfl _ 1 rfl (by simp) (one_ver _ _ _ _) (y := b.ops[k].verdict) ⟨⟨rfl, HVO.out⟩, rfl⟩ fresh_nil (by omega) (by decide) hxb.size ?_; intro v9 w9 hB9 hE9 hK9; obtain ⟨Av9, cv9, ev9, _⟩ := hB9.sl.form; subst ev9; obtain ⟨b5, hS5⟩ := HSb.out.putV hB9 (fun b0 hb0 hv0 => (hK9 [b0] (fun c hc => by rw [List.mem_singleton] at hc; rw [hc]; exact hb0) (fun c hc => by rw [List.mem_singleton] at hc; rw [hc]; exact hv0)).1 b0 (List.mem_singleton.2 rfl)) (fun g9 hg9 => by
                rcases Nat.lt_or_ge g9 (wr.alloc (.cells #[.int .i64 b.ops[k].kind, .int .i64 b.ops[k].record.source, .int .i64 b.ops[k].record.key, .int .i64 b.ops[k].record.version, .slice A2 b.ops[k].record.fields.length cap2, .int .i64 b.ops[k].verdict.a, .int .i64 b.ops[k].verdict.b, .bool b.ops[k].verdict.same, .int .i64 b.ops[k].verdict.time] 76)).heap.size with hlt9 | hge9
                · left
                  apply Classical.byContradiction
                  intro hne9
                  exact (hK9 [g9] (fun c hc => by rw [List.mem_singleton] at hc; rw [hc]; exact hlt9) (fun c hc => by rw [List.mem_singleton] at hc; rw [hc]; exact hne9)).2 g9 (List.mem_singleton.2 rfl) hg9
                · exact .inr hge9); have x5 := hE9 W3 (Nat.le_refl _) hxb; have t2 := b5.cells.1 2; have tf := b5.cells.2 2; simp only [List.length_append, List.length_singleton] at hS5; have HS5 := hid hS5; have HX5 := hid (fun u => x5.setCell (p := ⟨gx, 2, none⟩) HHB.out u); clear hS5 x5 b5 hE9 hK9 hB9)
              go_roundw
              case rel => exact ⟨k + 1, _, _, F, by omega, by go_num, by rw [HUR.out, HUV.out, HST.out.1, HST.out.2]; exact HS5.out, HX5.out _⟩
              case measure => simp [intOf]; omega
            · have e3 : (b.ops[k].kind == 3) = false := by simp [h3]
              have HST := hid (show upR ((b.ops.take k).foldl upR s.records) b.ops[k] = ((b.ops.take k).foldl upR s.records) ∧ upV ((b.ops.take k).foldl upV s.verdicts) b.ops[k] = ((b.ops.take k).foldl upV s.verdicts) from ⟨by unfold upR; rw [if_neg h1], by unfold upV; rw [if_neg h3]⟩)
              have HS5 := hid hSb
              clear hup1 hup2 h1 h3 hop hok hsl
              go_wp2
              go_roundw
              case rel => exact ⟨k + 1, _, _, F, by omega, by go_num, by rw [HUR.out, HUV.out, HST.out.1, HST.out.2]; exact HS5.out, hxb⟩
              case measure => simp [intOf]; omega
        · have hkn : (b.ops.take k) = b.ops := List.take_of_length_le (by omega)
          rw [hkn] at hS
          clear hkn
          obtain ⟨q0, q1⟩ := HBX.out _ hx
          have hrl : (b.ops.foldl upR s.records).length ≤ 14 := by
            have := (HUP.out b.ops.length (Nat.le_refl _)).2.2
            rw [List.take_length] at this
            omega
          have hvl : (b.ops.foldl upV s.verdicts).length ≤ 14 := by
            have := upV_len s.verdicts b.ops
            omega
          have HRL := hid (fun k => Nat.le_trans (dnR_sub (b.ops.foldl upR s.records) (b.ops.take k)).length_le hrl)
          have HVL := hid (fun k => Nat.le_trans (dnV_len (b.ops.foldl upV s.verdicts) (b.ops.take k)) hvl)
          clear hrl hvl
          go_wp2_with fail
          clear q0 q1
          go_loopw [57] (fun i wr => ∃ (k : Nat) (rv vv : Value) (F : List Nat), k ≤ b.ops.length ∧ i = .int .i64 k ∧ Sx wr W3.heap.size gx (s.version + 1) rv vv ((b.ops.take k).foldl dnR (b.ops.foldl upR s.records)) ((b.ops.take k).foldl dnV (b.ops.foldl upV s.verdicts)) F ∧ Ext W3 wr) (fun i _ => b.ops.length - (intOf i).toNat)
          case atStart => exact ⟨0, _, _, _, Nat.zero_le _, rfl, hS, hx⟩
          clear hS hx hlt hk
          case round =>
            obtain ⟨k, rv, vv, F, hk, rfl, hS, hx⟩ := hrel
            by_cases hlt : k < b.ops.length
            · have HUR := hid (fold_step dnR (b.ops.foldl upR s.records) b.ops k hlt)
              have HUV := hid (fold_step dnV (b.ops.foldl upV s.verdicts) b.ops k hlt)
              have hrl := HRL.out k
              have hvl := HVL.out k
              obtain ⟨b1, off, A2, cap2, eA, hok, hsl, c0, c1, c2, c3, c4, c5, c6, c7, c8⟩ := (HOPS.out _ hx).op hlt
              subst eA
              have hop : okOp b.ops[k] = true := HOK.out _ (List.getElem_mem hlt)
              have xb : Ext wr (wr.alloc (.cells #[.int .i64 b.ops[k].kind, .int .i64 b.ops[k].record.source, .int .i64 b.ops[k].record.key, .int .i64 b.ops[k].record.version, .slice A2 b.ops[k].record.fields.length cap2, .int .i64 b.ops[k].verdict.a, .int .i64 b.ops[k].verdict.b, .bool b.ops[k].verdict.same, .int .i64 b.ops[k].verdict.time] 76)) := (Ext.refl wr).alloc _
              have HOB := hid (show ∀ W, Ext (wr.alloc (.cells #[.int .i64 b.ops[k].kind, .int .i64 b.ops[k].record.source, .int .i64 b.ops[k].record.key, .int .i64 b.ops[k].record.version, .slice A2 b.ops[k].record.fields.length cap2, .int .i64 b.ops[k].verdict.a, .int .i64 b.ops[k].verdict.b, .bool b.ops[k].verdict.same, .int .i64 b.ops[k].verdict.time] 76)) W → W.cell? ⟨wr.heap.size, 0, none⟩ = some (.int .i64 b.ops[k].kind) ∧ OpCells W wr.heap.size b.ops[k] (.slice A2 b.ops[k].record.fields.length cap2) from fun W y => ⟨y.box.1 0, ⟨y.box.1 1, y.box.1 2, y.box.1 3, y.box.1 4⟩, y.box.1 5, y.box.1 6, y.box.1 7, y.box.1 8⟩)
              have hSb := hS.ext xb
              have hxb := hx.trans xb
              obtain ⟨Ar, cr, er, _⟩ := hS.r.r.sl.form
              subst er
              obtain ⟨Av, cv, ev, _⟩ := hS.r.v.sl.form
              subst ev
              obtain ⟨⟨g0, g1, g2⟩, gf⟩ := hSb.cells
              have hsize : wr.heap.size < (wr.alloc (.cells #[.int .i64 b.ops[k].kind, .int .i64 b.ops[k].record.source, .int .i64 b.ops[k].record.key, .int .i64 b.ops[k].record.version, .slice A2 b.ops[k].record.fields.length cap2, .int .i64 b.ops[k].verdict.a, .int .i64 b.ops[k].verdict.b, .bool b.ops[k].verdict.same, .int .i64 b.ops[k].verdict.time] 76)).heap.size := by simp
              have hnr : (Value.slice Ar ((b.ops.take k).foldl dnR (b.ops.foldl upR s.records)).length cr).ownBlock ≠ some wr.heap.size := fun e => by have := (hS.r.r.lt.2 _ e).1; omega
              have hnv : (Value.slice Av ((b.ops.take k).foldl dnV (b.ops.foldl upV s.verdicts)).length cv).ownBlock ≠ some wr.heap.size := fun e => by have := (hS.r.v.lt.2 _ e).1; omega
              by_cases h1 : b.ops[k].kind = 2
              · have e1 : (b.ops[k].kind == 2) = true := by simp [h1]
                have HPUT := hid (del_recs _ _ F b.ops[k] (.slice A2 b.ops[k].record.fields.length cap2) wr.heap.size W3.heap.size (wr.alloc (.cells #[.int .i64 b.ops[k].kind, .int .i64 b.ops[k].record.source, .int .i64 b.ops[k].record.key, .int .i64 b.ops[k].record.version, .slice A2 b.ops[k].record.fields.length cap2, .int .i64 b.ops[k].verdict.a, .int .i64 b.ops[k].verdict.b, .bool b.ops[k].verdict.same, .int .i64 b.ops[k].verdict.time] 76)) hSb.r.r (HOB.out _ (Ext.refl _)).2 hsize hnr (by omega))
                have HST := hid (show dnR ((b.ops.take k).foldl dnR (b.ops.foldl upR s.records)) b.ops[k] = delR ((b.ops.take k).foldl dnR (b.ops.foldl upR s.records)) b.ops[k].record ∧ dnV ((b.ops.take k).foldl dnV (b.ops.foldl upV s.verdicts)) b.ops[k] = ((b.ops.take k).foldl dnV (b.ops.foldl upV s.verdicts)) from ⟨by unfold dnR; rw [if_pos h1], by unfold dnV; rw [if_neg (by omega)]⟩)
                clear h1 hop hok hsl hnr hnv
                go_wp2_with fail
                refine HPUT.out.mono ?_
                rintro e w5 ⟨v2, F2, rfl, hB2, ip⟩
                obtain ⟨Ar2, cr2, er2, _⟩ := hB2.sl.form
                subst er2
                obtain ⟨b5, hS5⟩ := hSb.putR hB2 ip
                have x5 := ip.1 W3 (Nat.le_refl _) hxb
                have t1 := b5.cells.1 1
                have tf := b5.cells.2 1
                have HS5 := hid hS5
                have HX5 := hid (x5.setCell (p := ⟨gx, 1, none⟩) hS.hb (.slice Ar2 (delR ((b.ops.take k).foldl dnR (b.ops.foldl upR s.records)) b.ops[k].record).length cr2))
                clear hS5 x5 b5 ip hB2 g0 g1 g2 gf hSb hS
                go_wp2
                go_roundw
                case rel => exact ⟨k + 1, _, _, F2, by omega, by go_num, by rw [HUR.out, HUV.out, HST.out.1, HST.out.2]; exact HS5.out, HX5.out⟩
                case measure => simp [intOf]; omega
              · have e1 : (b.ops[k].kind == 2) = false := by simp [h1]
                by_cases h3 : b.ops[k].kind = 4
                · have e3 : (b.ops[k].kind == 4) = true := by simp [h3]
                  have HPUT := hid (del_vers _ _ b.ops[k] (.slice A2 b.ops[k].record.fields.length cap2) wr.heap.size W3.heap.size (wr.alloc (.cells #[.int .i64 b.ops[k].kind, .int .i64 b.ops[k].record.source, .int .i64 b.ops[k].record.key, .int .i64 b.ops[k].record.version, .slice A2 b.ops[k].record.fields.length cap2, .int .i64 b.ops[k].verdict.a, .int .i64 b.ops[k].verdict.b, .bool b.ops[k].verdict.same, .int .i64 b.ops[k].verdict.time] 76)) hSb.r.v (HOB.out _ (Ext.refl _)).2 hsize hnv (by omega))
                  have HST := hid (show dnR ((b.ops.take k).foldl dnR (b.ops.foldl upR s.records)) b.ops[k] = ((b.ops.take k).foldl dnR (b.ops.foldl upR s.records)) ∧ dnV ((b.ops.take k).foldl dnV (b.ops.foldl upV s.verdicts)) b.ops[k] = ((b.ops.take k).foldl dnV (b.ops.foldl upV s.verdicts)).filter (fun x => !eqB x b.ops[k].verdict) from ⟨by unfold dnR; rw [if_neg h1], by unfold dnV; rw [if_pos h3]⟩)
                  clear h1 h3 hop hok hsl hnr hnv
                  go_wp2_with fail
                  refine HPUT.out.mono ?_
                  rintro e w5 ⟨v2, rfl, hB2, ip⟩
                  obtain ⟨Av2, cv2, ev2, _⟩ := hB2.sl.form
                  subst ev2
                  obtain ⟨b5, hS5⟩ := hSb.putV hB2 ip.2.1 ip.2.2.2.2
                  have x5 := ip.1 W3 (Nat.le_refl _) hxb
                  have t1 := b5.cells.1 2
                  have tf := b5.cells.2 2
                  have HS5 := hid hS5
                  have HX5 := hid (x5.setCell (p := ⟨gx, 2, none⟩) hS.hb (.slice Av2 (((b.ops.take k).foldl dnV (b.ops.foldl upV s.verdicts)).filter (fun x => !eqB x b.ops[k].verdict)).length cv2))
                  clear hS5 x5 b5 ip hB2 g0 g1 g2 gf hSb hS
                  go_wp2
                  go_roundw
                  case rel => exact ⟨k + 1, _, _, F, by omega, by go_num, by rw [HUR.out, HUV.out, HST.out.1, HST.out.2]; exact HS5.out, HX5.out⟩
                  case measure => simp [intOf]; omega
                · have e3 : (b.ops[k].kind == 4) = false := by simp [h3]
                  have HST := hid (show dnR ((b.ops.take k).foldl dnR (b.ops.foldl upR s.records)) b.ops[k] = ((b.ops.take k).foldl dnR (b.ops.foldl upR s.records)) ∧ dnV ((b.ops.take k).foldl dnV (b.ops.foldl upV s.verdicts)) b.ops[k] = ((b.ops.take k).foldl dnV (b.ops.foldl upV s.verdicts)) from ⟨by unfold dnR; rw [if_neg h1], by unfold dnV; rw [if_neg h3]⟩)
                  have HS5 := hid hSb
                  clear h1 h3 hop hok hsl hnr hnv
                  go_wp2
                  go_roundw
                  case rel => exact ⟨k + 1, _, _, F, by omega, by go_num, by rw [HUR.out, HUV.out, HST.out.1, HST.out.2]; exact HS5.out, hxb⟩
                  case measure => simp [intOf]; omega
            · have hkn : (b.ops.take k) = b.ops := List.take_of_length_le (by omega)
              have hvl := HVL.out k
              rw [hkn] at hS hvl
              clear hkn hk
              obtain ⟨⟨g0, g1, g2⟩, gf⟩ := hS.cells
              go_wp2_with fail
              refine (sort_vers _ (b.ops.foldl dnV (b.ops.foldl upV s.verdicts)) W3.heap.size _ hS.r.v (by omega)).mono ?_
              rintro e w5 ⟨rfl, hB5, ip5⟩
              obtain ⟨b5, r5, n5⟩ := hS.inV hB5 ip5.2.1 ip5.2.2.2.2
              have hS5 : Sx w5 W3.heap.size gx (s.version + 1) rv vv (b.ops.foldl dnR (b.ops.foldl upR s.records)) (sortS (b.ops.foldl dnV (b.ops.foldl upV s.verdicts))) F := ⟨b5, r5, hS.nF, hS.nr, n5, hS.hb⟩
              have x5 := ip5.1 W3 (Nat.le_refl _) hx
              have hsl2 := sortS_len (b.ops.foldl dnV (b.ops.foldl upV s.verdicts))
              clear g0 g1 g2 gf hS hB5 ip5 b5 r5 n5 hx
              obtain ⟨⟨g0, g1, g2⟩, gf⟩ := hS5.cells
              go_wp2_with fail
              refine (comp_vers _ (sortS (b.ops.foldl dnV (b.ops.foldl upV s.verdicts))) W3.heap.size _ hS5.r.v (by omega)).mono ?_
              rintro e w6 ⟨v6, rfl, hB6, ip6⟩
              obtain ⟨Av, cv, ev6, _⟩ := hB6.sl.form
              subst ev6
              obtain ⟨b6, hS6⟩ := hS5.putV hB6 ip6.2.1 ip6.2.2.2.2
              have x6 := (ip6.1 W3 (Nat.le_refl _) x5).setCell (p := ⟨gx, 2, none⟩) hS5.hb (.slice Av (compV (sortS (b.ops.foldl dnV (b.ops.foldl upV s.verdicts)))).length cv)
              have t1 := b6.cells.1 2
              have tf := b6.cells.2 2
              clear g0 g1 g2 gf hS5 hB6 ip6 x5 b6 hsl2 hvl
              obtain ⟨⟨g0, g1, g2⟩, gf⟩ := hS6.cells
              have HIV := hid (show I64 (s.version + 1) from ⟨by omega, by omega⟩)
              go_wp2_with fail
              refine (impl_IsValidStore _ ⟨s.version + 1, (b.ops.foldl dnR (b.ops.foldl upR s.records)), compV (sortS (b.ops.foldl dnV (b.ops.foldl upV s.verdicts)))⟩ _ (hS6.at_ HIV.out)).mono ?_
              rintro e w7 ⟨rfl, x7⟩
              have x67 := x6.trans x7
              have hS7 := hS6.ext x7
              rw [show (⟨s.version + 1, (b.ops.foldl dnR (b.ops.foldl upR s.records)), compV (sortS (b.ops.foldl dnV (b.ops.foldl upV s.verdicts)))⟩ : Store) = newSto s b from rfl]
              clear g0 g1 g2 gf x6 x7 hS6 t1 tf
              cases hn : okSto (newSto s b) with
              | false =>
                have HNO := hid (appB_no (s := s) (b := b) fun h => by rw [hn] at h; cases h.2.2)
                clear hn hS7
                obtain ⟨⟨p0, p1, p2⟩, _⟩ := HBX.out _ (x67)
                go_wp2_with fail
                refine (impl_cloneStore _ s _ (HAT.out _ (x67)) hms hmv).mono ?_
                rintro e wc ⟨rv, vv, F, rfl, R, _, xc⟩
                clear p0 p1 p2
                have hbase : W3.heap.size ≤ w7.heap.size := (Ext.size (x67))
                have R3 := R.low hbase
                clear R
                obtain ⟨Ar, cr, er, _⟩ := (R3).r.sl.form
                subst er
                obtain ⟨Av, cv, ev, _⟩ := (R3).v.sl.form
                subst ev
                have bz := HZ.out _ ((x67).trans xc)
                obtain ⟨⟨z0, z1, z2⟩, zf⟩ := (⟨⟨bz.cells.1 0, bz.cells.1 1, bz.cells.1 2⟩, bz.cells.2⟩ : (_ ∧ _ ∧ _) ∧ _)
                have b9 := Blk.store3 bz (.int .i64 s.version) (.slice Ar (s.records).length cr) (.slice Av (s.verdicts).length cv)
                have r0 := b9.cells.1 0
                have r1 := b9.cells.1 1
                have r2 := b9.cells.1 2
                have HFIN := hid (show AppOut w (.returned (.tuple #[.agg #[.int .i64 s.version, .slice Ar (s.records).length cr, .slice Av (s.verdicts).length cv], .bool false])) (((wc.setCell ⟨w.heap.size + 1 + 1, 0, none⟩ (.int .i64 s.version)).setCell ⟨w.heap.size + 1 + 1, 1, none⟩ (.slice Ar (s.records).length cr)).setCell ⟨w.heap.size + 1 + 1, 2, none⟩ (.slice Av (s.verdicts).length cv)) (appB s b) from by
                  have hsz := HS.out
                  obtain ⟨n1, n2⟩ := (R3).r.below (g := w.heap.size + 1 + 1) (by omega)
                  obtain ⟨_, n3⟩ := (R3).v.below (g := w.heap.size + 1 + 1) (by omega)
                  rw [HNO.out]
                  exact ⟨_, _, _, rfl, ((R3).kp (Kp.store3 (w.heap.size + 1 + 1) 0 _ _ _ _) n1 n2 n3).low (by omega), by first | exact HI.out | exact HIV.out, Ext.store3 (HX.out.trans ((x67).trans xc)) (by omega) _ _ _⟩)
                clear b9 bz
                go_wp2
                refine bodyPost_ret (v := .tuple #[.agg #[.int .i64 s.version, .slice Ar (s.records).length cr, .slice Av (s.verdicts).length cv], .bool false]) (by simp [results, Tryz.results11, go_sem, r0, r1, r2]) rfl ?_
                exact HFIN.out
              | true =>
                have HNO := hid (appB_yes (s := s) (b := b) ⟨HSB.out.1, HSB.out.2, hn⟩)
                clear hn
                obtain ⟨⟨g0, g1, g2⟩, gf⟩ := hS7.cells
                have R3 := hS7.r
                have hbase := hS7.hb
                obtain ⟨Ar, cr, er, _⟩ := (R3).r.sl.form
                subst er
                have bz := HZ.out _ (x67)
                obtain ⟨⟨z0, z1, z2⟩, zf⟩ := (⟨⟨bz.cells.1 0, bz.cells.1 1, bz.cells.1 2⟩, bz.cells.2⟩ : (_ ∧ _ ∧ _) ∧ _)
                have b9 := Blk.store3 bz (.int .i64 (s.version + 1)) (.slice Ar ((b.ops.foldl dnR (b.ops.foldl upR s.records))).length cr) (.slice Av ((compV (sortS (b.ops.foldl dnV (b.ops.foldl upV s.verdicts))))).length cv)
                have r0 := b9.cells.1 0
                have r1 := b9.cells.1 1
                have r2 := b9.cells.1 2
                have HFIN := hid (show AppOut w (.returned (.tuple #[.agg #[.int .i64 (s.version + 1), .slice Ar ((b.ops.foldl dnR (b.ops.foldl upR s.records))).length cr, .slice Av ((compV (sortS (b.ops.foldl dnV (b.ops.foldl upV s.verdicts))))).length cv], .bool true])) (((w7.setCell ⟨w.heap.size + 1 + 1, 0, none⟩ (.int .i64 (s.version + 1))).setCell ⟨w.heap.size + 1 + 1, 1, none⟩ (.slice Ar ((b.ops.foldl dnR (b.ops.foldl upR s.records))).length cr)).setCell ⟨w.heap.size + 1 + 1, 2, none⟩ (.slice Av ((compV (sortS (b.ops.foldl dnV (b.ops.foldl upV s.verdicts))))).length cv)) (appB s b) from by
                  have hsz := HS.out
                  obtain ⟨n1, n2⟩ := (R3).r.below (g := w.heap.size + 1 + 1) (by omega)
                  obtain ⟨_, n3⟩ := (R3).v.below (g := w.heap.size + 1 + 1) (by omega)
                  rw [HNO.out]
                  exact ⟨_, _, _, rfl, ((R3).kp (Kp.store3 (w.heap.size + 1 + 1) 0 _ _ _ _) n1 n2 n3).low (by omega), by first | exact HI.out | exact HIV.out, Ext.store3 (HX.out.trans (x67)) (by omega) _ _ _⟩)
                clear b9 bz
                go_wp2
                refine bodyPost_ret (v := .tuple #[.agg #[.int .i64 (s.version + 1), .slice Ar ((b.ops.foldl dnR (b.ops.foldl upR s.records))).length cr, .slice Av ((compV (sortS (b.ops.foldl dnV (b.ops.foldl upV s.verdicts))))).length cv], .bool true]) (by simp [results, Tryz.results11, go_sem, r0, r1, r2]) rfl ?_
                exact HFIN.out

end Go.Proofs.YtfcbapaojoecgaaGreat

namespace Go.Proofs.YtfcbapaojoecgaaGreat
open Go.RowKit

theorem Bld.done2 {α : Type} {R : RepO α} {w : World} {base : Nat} {e : TypeId} {v : Value} {xs : List α} {F : List Nat} (h : Bld R w base e v xs F) : ∃ F', OwnSl R w v xs F' ∧ F'.Nodup ∧ (∀ b ∈ F', base ≤ b) ∧ ∀ b ∈ F', b ∈ F ∨ v.ownBlock = some b := by
  obtain ⟨cs, h1, h2, h3, h4, h5⟩ := h
  rcases h1.2 with ⟨rfl, hn⟩ | ⟨g, cap, cur, rfl, hb, hh, hnc, hcm, hcs, htake⟩
  · have : xs = [] := List.eq_nil_of_length_eq_zero hn
    exact ⟨[], .inl ⟨this, rfl, none, 0, rfl, Nat.zero_le _⟩, List.nodup_nil, (fun _ h => by cases h), fun _ h => by cases h⟩
  · refine ⟨g :: F, .inr ⟨g, 0, cap, cur, e, F, rfl, ⟨hnc, hcm⟩, hh, rfl, ?_, by rw [List.drop_zero, htake]; exact h2⟩, List.nodup_cons.2 ⟨h3 g rfl, h4⟩, fun b hb2 => ?_, fun b hb2 => ?_⟩
    · rw [hcs, Nat.zero_add]; exact Nat.mul_le_mul_right _ hnc
    · rcases List.mem_cons.1 hb2 with rfl | hb2
      · exact hb
      · exact h5 b hb2
    · rcases List.mem_cons.1 hb2 with rfl | hb2
      · exact .inr rfl
      · exact .inl hb2
theorem Rows2.own {w : World} {base : Nat} {rv vv : Value} {s : Store} {F : List Nat} (h : Rows2 w base rv vv s.records s.verdicts F) (hI : I64 s.version) : ∃ F', StoOwn w (.agg #[.int .i64 s.version, rv, vv]) s F' ∧ F'.Nodup ∧ ∀ b ∈ F', base ≤ b := by
  obtain ⟨F1, a1, a2, a3, a4⟩ := h.r.done2
  obtain ⟨F2, b1, b2, b3, b4⟩ := h.v.done2
  refine ⟨F1 ++ F2, ⟨rv, vv, F1, F2, rfl, hI, a1, b1, rfl⟩, List.nodup_append.2 ⟨a2, b2, fun x hx y hy e => ?_⟩, fun b hb => (List.mem_append.1 hb).elim (a3 b) (b3 b)⟩
  subst e
  rcases b4 x hy with hy | hy
  · cases hy
  · have := h.ap x hy
    rcases a4 x hx with hx | hx
    · exact this.1 hx
    · exact this.2 hx
def stoCnt (s : Store) : Nat := (lstMk recMk).cnt s.records + (lstMk verdictMk).cnt s.verdicts
def StoIs (k : Int) (s s2 : Store) : Prop := s2.version = s.version ∧ (lstMk recMk).is k s.records s2.records ∧ (lstMk verdictMk).is (k + ((lstMk recMk).cnt s.records : Nat)) s.verdicts s2.verdicts
theorem recCnt (xs : List Record) : (lstMk recMk).cnt xs = recSum xs := rfl
theorem stoCnt_ms (s : Store) : stoCnt s ≤ 4 * msSto s := by
  have h1 : (lstMk recMk).cnt s.records ≤ 3 * msRecs s.records := by rw [recCnt]; exact recSum_ms s.records
  have h2 := cntVerdictS_le s.verdicts
  have h3 : msSto s = msRecs s.records + s.verdicts.length := rfl
  unfold stoCnt
  omega

set_option maxHeartbeats 1000000 in
set_option maxRecDepth 20000 in
theorem markStore_t (v : Value) (s : Store) (F : List Nat) (k : Int) (w : World) (h : StoOwn w v s F) (hN : F.Nodup) (h0 : 0 ≤ k) (hb : k + (stoCnt s : Nat) ≤ 1152921504606846976) :
    Calls Tryz.prog 14 #[v, .int .i64 k] w fun e w2 => ∃ s2, e = .returned (.int .i64 (k + (stoCnt s : Nat))) ∧ StoOwn w2 v s2 F ∧ StoIs k s s2 ∧ Chg F w w2 := by
  obtain ⟨r, d, F1, F2, rfl, hI, hr, hd, rfl⟩ := h
  obtain ⟨n1, n2, n3⟩ := List.nodup_append.1 hN
  have hcs : stoCnt s = (lstMk recMk).cnt s.records + (lstMk verdictMk).cnt s.verdicts := rfl
  have xB : Ext w (w.alloc (.cells #[.int .i64 s.version, r, d] 34)) := (Ext.refl _).alloc _
  have hB := (Blk.new w 34 #[.int .i64 s.version, r, d])
  have hg1 : w.heap.size ∉ F1 := fun hb => by have := hr.lt _ hb; omega
  have hdis : ∀ b ∈ F2, b ∉ F1 := fun b hb hb1 => n3 b hb1 b hb rfl
  have hdis2 : ∀ b ∈ F1, b ∉ F2 := fun b hb hb1 => n3 b hb b hb1 rfl
  obtain ⟨A, cap, e1, _⟩ := hr.form
  subst e1
  obtain ⟨B, cap2, e2, _⟩ := hd.form
  subst e2
  go_enter Tryz.func14, Tryz.ntmps14
  go_wp2_with fail
  refine (markRecordS_t _ s.records F1 _ _ (hr.ext xB) n1 h0 (by omega)).mono ?_
  rintro e w2 ⟨ys, rfl, hr2, his1, hc⟩
  have hB2 := hB.keep (hc.block _ (by simp) hg1)
  have b2 := (hB2.cells).1 2
  have b2 : w2.cell? ⟨w.heap.size, 2, none⟩ = some (.slice B s.verdicts.length cap2) := b2
  have hd2 : OwnSl verdictO w2 (.slice B s.verdicts.length cap2) s.verdicts F2 := (hd.ext xB).keep fun b hb => hc.block b (Nat.lt_of_lt_of_le (hd.lt b hb) xB.size) (hdis b hb)
  obtain ⟨c1, hc1⟩ : ∃ c, c = (lstMk recMk).cnt s.records := ⟨_, rfl⟩
  have HC1 := hid hc1
  have HI1 := hid his1
  rw [← hc1] at hcs ⊢
  clear hc1 his1
  go_wp2_with fail
  refine (markVerdictS_c _ s.verdicts F2 _ _ hd2 n2 (by omega) (by omega)).mono ?_
  rintro e w3 ⟨zs, rfl, hd3, his2, hc2⟩
  have hl1 := HI1.out.1
  have hl2 := his2.1
  have HFIN := hid (show ∃ s2, StoOwn w3 (.agg #[.int .i64 s.version, .slice A s.records.length cap, .slice B s.verdicts.length cap2]) s2 (F1 ++ F2) ∧ StoIs k s s2 ∧ Chg (F1 ++ F2) w w3 from
    ⟨⟨s.version, ys, zs⟩, ⟨_, _, F1, F2, rfl, hI, hr2.keep fun b hb => hc2.block b (hr2.lt b hb) (hdis2 b hb), hd3, rfl⟩, ⟨rfl, HI1.out, by rw [← HC1.out]; exact his2⟩, ((Chg.of_ext xB).trans (hc.mono fun b hb => List.mem_append_left _ hb)).trans (hc2.mono fun b hb => List.mem_append_right _ hb)⟩)
  clear hr2 hd2 hd3 his2 hc hc2 hl1 hl2
  go_wp2
  go_ret
  obtain ⟨s2, f1, f2, f3⟩ := HFIN.out
  exact ⟨s2, ret_int (by omega), f1, f2, f3⟩

set_option maxHeartbeats 1000000 in
set_option maxRecDepth 20000 in
theorem heldStore_t (v : Value) (s s2 : Store) (k : Int) (w : World) (h : StoAt w v s2) (hi : StoIs k s s2) (h0 : 0 ≤ k) (hb : k + (stoCnt s : Nat) ≤ 1152921504606846976) :
    Calls Tryz.prog 16 #[v, .int .i64 k] w fun e w2 => e = .returned (.int .i64 (k + (stoCnt s : Nat))) ∧ Ext w w2 := by
  obtain ⟨r, d, rfl, hI, hr, hd⟩ := h
  have hcs : stoCnt s = (lstMk recMk).cnt s.records + (lstMk verdictMk).cnt s.verdicts := rfl
  have xB : Ext w (w.alloc (.cells #[.int .i64 s2.version, r, d] 34)) := (Ext.refl _).alloc _
  have HIS := hid hi
  obtain ⟨A, cap, e1, _⟩ := hr.form
  subst e1
  obtain ⟨B, cap2, e2, _⟩ := hd.form
  subst e2
  go_enter Tryz.func16, Tryz.ntmps16
  go_wp2_with fail
  refine (heldRecordS_t _ s.records s2.records _ _ (hr.mono xB) HIS.out.2.1 h0 (by omega)).mono ?_
  rintro e w2 ⟨rfl, x2⟩
  obtain ⟨b0, b1, b2⟩ := (⟨x2.box.1 0, x2.box.1 1, x2.box.1 2⟩ : _ ∧ _ ∧ _)
  obtain ⟨c1, hc1⟩ : ∃ c, c = (lstMk recMk).cnt s.records := ⟨_, rfl⟩
  have HC1 := hid hc1
  rw [← hc1] at hcs ⊢
  clear hc1
  have hn1 : 0 ≤ k + (c1 : Int) := by omega
  go_wp2_with fail
  refine (heldVerdictS_c _ s.verdicts s2.verdicts _ _ ((hd.mono xB).mono x2) (by have := HIS.out.2.2; rw [← HC1.out] at this; exact this) hn1 (by omega)).mono ?_
  rintro e w3 ⟨rfl, rfl⟩
  obtain ⟨c2, hc2⟩ : ∃ c, c = (lstMk verdictMk).cnt s.verdicts := ⟨_, rfl⟩
  rw [← hc2] at hcs ⊢
  clear hc2
  have hn2 : 0 ≤ k + (c1 : Int) + (c2 : Int) := by omega
  go_wp2
  go_ret
  exact ⟨ret_int (by omega), xB.trans x2⟩
end Go.Proofs.YtfcbapaojoecgaaGreat
