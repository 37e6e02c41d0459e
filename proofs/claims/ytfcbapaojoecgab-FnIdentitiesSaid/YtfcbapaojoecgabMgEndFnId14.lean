/-
  PLAIN LAWS AND WALKS: entityWith, successor, l26At, l26Most.
-/
import Derived.Test.YtfcbapaojoecgabMgEndFnId9
import Derived.Test.YtfcbapaojoecgabMgEndFnId0
import Derived.Test.YtfcbapaojoecgabMgEndFnId6

namespace Go.Proofs.Ytfcbapaojoecgab
open Go.RowKit

theorem Ext.box_2 {w W : World} {a b : Value} {T : TypeId} (h : Ext (w.alloc (.cells #[a, b] T)) W) : W.cell? ⟨w.heap.size, 0, none⟩ = some a ∧ W.cell? ⟨w.heap.size, 1, none⟩ = some b := ⟨h.box.1 0, h.box.1 1⟩
theorem Ext.box_1 {w W : World} {a : Value} {T : TypeId} (h : Ext (w.alloc (.cells #[a] T)) W) : W.cell? ⟨w.heap.size, 0, none⟩ = some a := h.box.1 0
theorem idxF_some {α : Type} (p : α → Bool) : ∀ (xs : List α) (k : Nat), 0 ≤ idxF p k xs → ∃ (j : Nat) (h : j < xs.length), idxF p k xs = (k + j : Nat) ∧ p xs[j] = true
  | [], k, h => by simp [idxF] at h
  | x :: xs, k, h => by
    rw [idxF] at h ⊢
    by_cases hp : p x = true
    · rw [if_pos hp]
      exact ⟨0, by simp, by simp, by simpa using hp⟩
    · rw [if_neg hp] at h ⊢
      obtain ⟨j, hj, e, hpj⟩ := idxF_some p xs (k + 1) h
      exact ⟨j + 1, by simpa using hj, by rw [e]; congr 1; omega, by simpa using hpj⟩

def atId (xs : List Entity) (id : Int) : Int := idxF (fun e => e.id == id) 0 xs
theorem atId_some {xs : List Entity} {id : Int} (h : 0 ≤ atId xs id) : ∃ (k : Nat) (h : k < xs.length), atId xs id = k ∧ xs[k].id = id := by
  obtain ⟨j, hj, e, hp⟩ := idxF_some _ xs 0 h
  exact ⟨j, hj, by unfold atId; rw [e]; simp, by simpa using hp⟩
theorem atId_bd (xs : List Entity) (id : Int) : -1 ≤ atId xs id ∧ atId xs id < xs.length := by
  have := idxF_lt (fun e : Entity => e.id == id) xs 0
  unfold atId; omega

set_option maxHeartbeats 400000 in
theorem IndexFunc_ent (v : Value) (xs : List Entity) (p : Entity → Bool) (fn : FuncId) (cp : Array Value) (w : World) (h : Sl entityR w v xs)
    (hfn : ∀ (args : Array Value) (W : World), Sem.run Try.prog (callFunc fn args) W = .ok (.enter fn args) W)
    (hf : ∀ wz a x, Ext w wz → EntAt wz a x → Calls Try.prog fn (#[a] ++ cp) wz fun e w2 => e = .returned (.bool (p x)) ∧ Ext wz w2) :
    Calls Try.prog 83 #[v, .func (.func fn) #[] cp] w fun e w2 => e = .returned (.int .i64 (idxF p 0 xs)) ∧ Ext w w2 := by
  obtain ⟨A, cap, rfl, hm⟩ := h.form
  go_enter Try.func83, Try.ntmps83
  go_wp2
  go_loopw [8] (fun i wr => ∃ k : Nat, k ≤ xs.length ∧ i = .int .i64 k ∧ (∀ x ∈ xs.take k, p x = false) ∧ Ext w wr) (fun i _ => xs.length - (intOf i).toNat)
  case atStart => exact ⟨0, Nat.zero_le _, rfl, by simp, Ext.refl _⟩
  case round =>
    obtain ⟨k, hk, rfl, hz, hx⟩ := hrel
    have HZ := hid hz
    clear hz
    by_cases hlt : k < xs.length
    · obtain ⟨b, off, A2, cap2, rfl, hI, hsl, hc0, hc1⟩ := (h.mono hx).ent hlt
      go_wp2_with fail
      refine (hf wr _ xs[k] hx ⟨_, rfl, hI, hsl⟩).mono ?_
      rintro e w2 ⟨rfl, x2⟩
      by_cases hp : p xs[k] = true
      · rw [hp]
        go_wp2
        go_ret
        exact ⟨ret_int (idxF_at p xs k hlt HZ.out hp).symm, hx.trans x2⟩
      · have hp' : p xs[k] = false := by simpa using hp
        have HP := hid hp'
        rw [hp']
        clear hp hp'
        go_wp2
        go_roundw
        case rel => exact ⟨k + 1, by omega, by go_num, take_snoc_all _ xs k hlt HZ.out HP.out, hx.trans x2⟩
        case measure => simp [intOf]; omega
    · go_wp2
      go_ret
      exact ⟨ret_int (idxF_all p xs k hlt HZ.out).symm, hx⟩

set_option maxHeartbeats 400000 in
theorem impl_entityWith_1 (a : Value) (y : Entity) (x : Int) (g : Nat) (w : World) (h : EntAt w a y) (hc : w.cell? ⟨g, 0, none⟩ = some (.int .i64 x)) :
    Calls Try.prog 84 #[a, .pointer (some ⟨g, 0, none⟩)] w fun e w2 => e = .returned (.bool (y.id == x)) ∧ Ext w w2 := by
  obtain ⟨m, rfl, hI, hs⟩ := h
  have hc2 : (w.alloc (.cells #[.int .i64 y.id, m] 42)).cell? ⟨g, 0, none⟩ = _ := ((Ext.refl _).alloc _).cell hc
  go_enter Try.func84, Try.ntmps84
  go_wp2
  go_ret
  exact ⟨rfl, (by repeat (first | with_reducible exact Ext.refl _ | with_reducible assumption | with_reducible refine Ext.drew ?_ | with_reducible refine Ext.alloc ?_ _ | with_reducible refine Ext.trans ?_ (by with_reducible assumption)))⟩

set_option maxHeartbeats 400000 in
theorem impl_entityWith_yes (v : Value) (xs : List Entity) (x : Int) (k : Nat) (w : World) (h : Sl entityR w v xs) (hk : k < xs.length) (he : atId xs x = k) :
    Calls Try.prog 61 #[v, .int .i64 x] w fun e w2 => ∃ m, e = .returned (.tuple #[.agg #[.int .i64 xs[k].id, m], .bool true]) ∧ Sl intR w2 m xs[k].members ∧ Ext w w2 := by
  obtain ⟨A, cap, rfl, hm⟩ := h.form
  have HE := hid he
  clear he
  go_enter Try.func61, Try.ntmps61
  go_wp2_with fail
  refine (IndexFunc_ent _ xs (fun e => e.id == x) 84 #[.pointer (some ⟨w.heap.size, 0, none⟩)] _ (h.mono (by repeat (first | with_reducible exact Ext.refl _ | with_reducible assumption | with_reducible refine Ext.drew ?_ | with_reducible refine Ext.alloc ?_ _ | (refine Ext.setCell ?_ (by simp) _) | with_reducible refine Ext.trans ?_ (by with_reducible assumption)))) (fun _ _ => by kernel_rfl) (fun wz a y hx ha => impl_entityWith_1 a y x _ wz ha (Ext.box_1 (((Ext.refl _).alloc _).trans hx)))).mono ?_
  rintro e w2 ⟨rfl, x2⟩
  rw [show idxF (fun e => e.id == x) 0 xs = (k : Int) from HE.out]
  have x3 : Ext w w2 := (by repeat (first | with_reducible exact Ext.refl _ | with_reducible assumption | with_reducible refine Ext.drew ?_ | with_reducible refine Ext.alloc ?_ _ | (refine Ext.setCell ?_ (by simp) _) | with_reducible refine Ext.trans ?_ (by with_reducible assumption)))
  obtain ⟨b, off, A2, cap2, rfl, hI, hsl, hc0, hc1⟩ := (h.mono x3).ent hk
  obtain ⟨c1, f1⟩ := x2.box1
  go_wp2
  refine bodyPost_ret (v := .tuple #[.agg #[.int .i64 xs[k].id, .slice A2 xs[k].members.length cap2], .bool true]) (by simp [results, Try.results61, go_sem, c1, f1]) rfl ?_
  clear c1 f1
  have x4 : Ext w ((w2.setCell ⟨w.heap.size + 1, 0, none⟩ (.int .i64 xs[k].id)).setCell ⟨w.heap.size + 1, 1, none⟩ (.slice A2 xs[k].members.length cap2)) := (x3.setCell (by simp) _).setCell (by simp) _
  obtain ⟨b', off', A3, cap3, e3, _, hsl3, _, hc3⟩ := h.ent hk
  have hc4 := x3.cell hc3
  cases e3
  rw [hc1] at hc4
  injection hc4 with hc4
  injection hc4 with e1 e2 e3
  subst e1; subst e3
  exact ⟨_, rfl, hsl3.mono x4, x4⟩

set_option maxHeartbeats 400000 in
theorem impl_entityWith_no (v : Value) (xs : List Entity) (x : Int) (w : World) (h : Sl entityR w v xs) (he : atId xs x < 0) :
    Calls Try.prog 61 #[v, .int .i64 x] w fun e w2 => e = .returned (.tuple #[.agg #[.int .i64 0, .slice none 0 0], .bool false]) ∧ Ext w w2 := by
  obtain ⟨A, cap, rfl, hm⟩ := h.form
  go_enter Try.func61, Try.ntmps61
  go_wp2_with fail
  refine (IndexFunc_ent _ xs (fun e => e.id == x) 84 #[.pointer (some ⟨w.heap.size, 0, none⟩)] _ (h.mono (by repeat (first | with_reducible exact Ext.refl _ | with_reducible assumption | with_reducible refine Ext.drew ?_ | with_reducible refine Ext.alloc ?_ _ | (refine Ext.setCell ?_ (by simp) _) | with_reducible refine Ext.trans ?_ (by with_reducible assumption)))) (fun _ _ => by kernel_rfl) (fun wz a y hx ha => impl_entityWith_1 a y x _ wz ha (Ext.box_1 (((Ext.refl _).alloc _).trans hx)))).mono ?_
  rintro e w2 ⟨rfl, x2⟩
  rw [show idxF (fun e => e.id == x) 0 xs = atId xs x from rfl]
  have hb := atId_bd xs x
  generalize atId xs x = L at hb he ⊢
  have x3 : Ext w w2 := (by repeat (first | with_reducible exact Ext.refl _ | with_reducible assumption | with_reducible refine Ext.drew ?_ | with_reducible refine Ext.alloc ?_ _ | (refine Ext.setCell ?_ (by simp) _) | with_reducible refine Ext.trans ?_ (by with_reducible assumption)))
  obtain ⟨c1, f1⟩ := x2.box1
  go_wp2
  refine bodyPost_ret (v := .tuple #[.agg #[.int .i64 0, .slice none 0 0], .bool false]) (by simp [results, Try.results61, go_sem, c1, f1]) rfl ?_
  exact ⟨rfl, by repeat (first | with_reducible exact x3 | (refine Ext.setCell ?_ (by simp) _))⟩

set_option maxHeartbeats 400000 in
theorem spec_l26At (v : Value) (xs : List Entity) (x : Int) (w : World) (h : Sl entityR w v xs) :
    Calls Try.prog 63 #[v, .int .i64 x] w fun e w2 => e = .returned (.int .i64 (atId xs x)) ∧ w = w2 := by
  obtain ⟨A, cap, rfl, hm⟩ := h.form
  go_enter Try.func63, Try.ntmps63
  go_wp2
  go_loop [5] (fun i => ∃ k : Nat, k ≤ xs.length ∧ i = .int .i64 k ∧ ∀ y ∈ xs.take k, (y.id == x) = false) (fun i => xs.length - (intOf i).toNat)
  case atStart => exact ⟨0, Nat.zero_le _, rfl, by simp⟩
  case round =>
    obtain ⟨k, hk, rfl, hz⟩ := hrel
    have HZ := hid hz
    clear hz
    by_cases hlt : k < xs.length
    · obtain ⟨b, off, A2, cap2, rfl, hI, hsl, hc0, hc1⟩ := h.ent hlt
      by_cases h0 : xs[k].id = x
      · have h1 : (xs[k].id == x) = true := by simp [h0]
        have H0 := hid h0
        clear h0
        go_wp2
        go_ret
        exact ⟨ret_int (idxF_at (fun y : Entity => y.id == x) xs k hlt HZ.out (by simp [H0.out])).symm, rfl⟩
      · have h1 : (xs[k].id == x) = false := by rw [beq_eq_false_iff_ne]; exact h0
        have H0 := hid h0
        clear h0
        go_wp2
        go_round
        case rel => exact ⟨k + 1, by omega, by go_num, take_snoc_all (fun y : Entity => (y.id == x) = false) xs k hlt HZ.out (by simp [H0.out])⟩
        case measure => simp [intOf]; omega
    · go_wp2
      go_ret
      exact ⟨ret_int (idxF_all (fun y : Entity => y.id == x) xs k hlt HZ.out).symm, rfl⟩

def mostStep (ms : List Int) (s : Nat × Int) (e : Entity) : Nat × Int := if s.1 < cntIn ms e.members then (cntIn ms e.members, e.id) else s
def mostSt (ms : List Int) (xs : List Entity) : Nat × Int := xs.foldl (mostStep ms) (0, 0)
def mostF (ms : List Int) (xs : List Entity) : Int := (mostSt ms xs).2
theorem mostSt_step (ms : List Int) (xs : List Entity) (k : Nat) (h : k < xs.length) : mostSt ms (xs.take (k + 1)) = mostStep ms (mostSt ms (xs.take k)) xs[k] := by
  unfold mostSt; rw [List.take_succ_eq_append_getElem h, List.foldl_append]; rfl
theorem mostSt_bd (ms : List Int) (xs : List Entity) (h : ∀ e ∈ xs, I64 e.id) : (mostSt ms xs).1 ≤ ms.length ∧ I64 (mostSt ms xs).2 := by
  have key : ∀ (l : List Entity) (s : Nat × Int), (∀ e ∈ l, I64 e.id) → s.1 ≤ ms.length → I64 s.2 → (l.foldl (mostStep ms) s).1 ≤ ms.length ∧ I64 (l.foldl (mostStep ms) s).2 := by
    intro l
    induction l with
    | nil => intro s _ h1 h2; exact ⟨h1, h2⟩
    | cons e l ih =>
      intro s hl h1 h2
      rw [List.foldl_cons]
      refine ih _ (fun y hy => hl y (List.mem_cons_of_mem _ hy)) ?_ ?_
      · unfold mostStep; split
        · exact cntIn_le _ _
        · exact h1
      · unfold mostStep; split
        · exact hl e (List.mem_cons_self ..)
        · exact h2
  exact key xs (0, 0) h (Nat.zero_le _) (by simp [I64])
theorem Sl.ent_ids {w : World} {v : Value} {xs : List Entity} (h : Sl entityR w v xs) : ∀ e ∈ xs, I64 e.id := by
  intro x hx
  obtain ⟨A, cap, rfl, _⟩ := h.form
  obtain ⟨i, hi, rfl⟩ := List.getElem_of_mem hx
  obtain ⟨_, _, _, _, _, hb, _⟩ := h.ent hi
  exact hb

set_option maxHeartbeats 400000 in
theorem spec_l26Most (v u : Value) (ms : List Int) (xs : List Entity) (w : World) (h : Sl intR w v ms) (k0 : Sl entityR w u xs) :
    Calls Try.prog 64 #[v, u] w fun e w2 => e = .returned (.int .i64 (mostF ms xs)) ∧ w = w2 := by
  obtain ⟨A, cap, rfl, hm⟩ := h.form
  obtain ⟨B, cap2, rfl, hm2⟩ := k0.form
  go_enter Try.func64, Try.ntmps64
  go_wp2
  go_loop [5, 6, 7] (fun a b i => ∃ (k : Nat) (s : Nat × Int), k ≤ xs.length ∧ i = .int .i64 k ∧ s = mostSt ms (xs.take k) ∧ a = .int .i64 (s.1 : Nat) ∧ b = .int .i64 s.2) (fun _ _ i => xs.length - (intOf i).toNat)
  case atStart => exact ⟨0, _, Nat.zero_le _, rfl, rfl, rfl, rfl⟩
  case round =>
    obtain ⟨k, s, hk, rfl, hs, rfl, rfl⟩ := hrel
    have HS := hid hs
    clear hs
    by_cases hlt : k < xs.length
    · obtain ⟨b, off, A2, cap3, rfl, hI, hsl, hc0, hc1⟩ := k0.ent hlt
      have HT := hid (mostSt_step ms xs k hlt)
      go_wp2_with fail
      refine (spec_l25Count _ _ ms xs[k].members _ h hsl).mono ?_
      rintro e w2 ⟨rfl, rfl⟩
      have hcl := cntIn_le ms xs[k].members
      obtain ⟨c, hc⟩ : ∃ c, c = cntIn ms xs[k].members := ⟨_, rfl⟩
      rw [← hc] at hcl ⊢
      have HC := hid hc
      clear hc
      by_cases hgt : s.1 < c
      · go_wp2
        go_round
        case rel => exact ⟨k + 1, (c, xs[k].id), by omega, by go_num, by rw [HT.out, ← HS.out]; unfold mostStep; rw [← HC.out, if_pos hgt], rfl, rfl⟩
        case measure => simp [intOf]; omega
      · go_wp2
        go_round
        case rel => exact ⟨k + 1, s, by omega, by go_num, by rw [HT.out, ← HS.out]; unfold mostStep; rw [← HC.out, if_neg hgt], rfl, rfl⟩
        case measure => simp [intOf]; omega
    · go_wp2
      go_ret
      exact ⟨ret_int (by rw [HS.out, List.take_of_length_le (by omega)]; rfl), rfl⟩

theorem Sl.one {α : Type} {R : Rep α} {w : World} {g : Nat} {v : Value} {x : List α} (h : Sl R w v x) (hc : w.cell? ⟨g, 0, none⟩ = some v) : Sl (slR R) w (.slice (some ⟨g, 0, none⟩) 1 1) [x] := by
  refine ⟨_, 1, rfl, ⟨Nat.le_refl _, by unfold maxLen; omega⟩, fun i hi => ⟨g, 0, [v], rfl, ?_, fun j hj => ?_⟩⟩
  · have : i = 0 := by simp at hi; omega
    subst this
    exact ⟨v, rfl, h⟩
  · have h1 : i = 0 := by simp at hi; omega
    have h2 : j = 0 := by simp [slR] at hj; omega
    subst h1; subst h2
    simpa using hc

set_option maxHeartbeats 400000 in
set_option maxRecDepth 20000 in
theorem impl_successor (v u : Value) (xs : List Entity) (ms : List Int) (w : World) (h : Sl entityR w v xs) (k0 : Sl intR w u ms) (hb : ms.length ≤ 100) :
    Calls Try.prog 62 #[v, u] w fun e w2 => e = .returned (.int .i64 (mostF ms xs)) ∧ Ext w w2 := by
  obtain ⟨A, cap, rfl, hm⟩ := h.form
  obtain ⟨B, cap2, rfl, hm2⟩ := k0.form
  go_enter Try.func62, Try.ntmps62
  go_wp2
  go_loopw [5, 6, 12] (fun b a i wr => ∃ (k : Nat) (s : Nat × Int), k ≤ xs.length ∧ i = .int .i64 k ∧ s = mostSt ms (xs.take k) ∧ a = .int .i64 (s.1 : Nat) ∧ b = .int .i64 s.2 ∧ Ext w wr) (fun _ _ i _ => xs.length - (intOf i).toNat)
  case atStart => exact ⟨0, _, Nat.zero_le _, rfl, rfl, rfl, rfl, Ext.refl _⟩
  case round =>
    obtain ⟨k, s, hk, rfl, hs, rfl, rfl, hx⟩ := hrel
    have HS := hid hs
    clear hs
    by_cases hlt : k < xs.length
    · obtain ⟨b, off, A2, cap3, rfl, hI, hsl, hc0, hc1⟩ := (h.mono hx).ent hlt
      have HT := hid (mostSt_step ms xs k hlt)
      have hc2 : ((wr.alloc (.cells #[.int .i64 xs[k].id, .slice A2 xs[k].members.length cap3] 42)).alloc (.cells #[.slice B ms.length cap2] 40)).cell? ⟨wr.heap.size, 1, none⟩ = _ := (Ext.box_2 ((Ext.refl _).alloc _)).2
      go_wp2_with fail
      refine (impl_overlapMatrix _ _ [ms] [xs[k].members] _ (Sl.one (k0.mono (by repeat (first | with_reducible exact Ext.refl _ | with_reducible assumption | with_reducible refine Ext.drew ?_ | with_reducible refine Ext.alloc ?_ _ | (refine Ext.setCell ?_ (by simp) _) | with_reducible refine Ext.trans ?_ (by with_reducible assumption)))) ?c1) (Sl.one (hsl.mono (by repeat (first | with_reducible exact Ext.refl _ | with_reducible assumption | with_reducible refine Ext.drew ?_ | with_reducible refine Ext.alloc ?_ _ | (refine Ext.setCell ?_ (by simp) _) | with_reducible refine Ext.trans ?_ (by with_reducible assumption)))) ?c2) (by simp) (by simp)).mono ?_
      case c1 => exact Ext.box1 ((Ext.refl _).alloc _) |>.1 0
      case c2 => exact Ext.box2 (Ext.refl _) |>.1 0
      rintro e w2 ⟨v2, F, rfl, ho, _, x2⟩
      have ho2 : Sl (slR intR) w2 v2 [[min 100 (cntIn ms xs[k].members : Int)]] := ho.sl
      obtain ⟨A5, cap5, rfl, _⟩ := ho2.form
      obtain ⟨b6, off6, A7, cap7, rfl, hs7, hc7⟩ := ho2.sl (i := 0) (by simp)
      obtain ⟨b8, off8, e8, hI8, hc8⟩ := hs7.int (i := 0) (by simp)
      subst e8
      simp only [List.getElem_cons_zero, List.length_singleton, List.length_cons, List.length_nil, Nat.add_zero, Nat.zero_add] at hc7 hc8
      have hcl := cntIn_le ms xs[k].members
      rw [show min (100 : Int) (cntIn ms xs[k].members : Int) = (cntIn ms xs[k].members : Int) by omega] at hc8
      clear ho ho2 hs7 hI8
      have xA : Ext (wr.alloc (.cells #[.int .i64 xs[k].id, .slice A2 xs[k].members.length cap3] 42)) w2 := (by repeat (first | with_reducible exact Ext.refl _ | with_reducible assumption | with_reducible refine Ext.drew ?_ | with_reducible refine Ext.alloc ?_ _ | (refine Ext.setCell ?_ (by simp) _) | with_reducible refine Ext.trans ?_ (by with_reducible assumption)))
      have c70 := (Ext.box_2 xA).1
      obtain ⟨c, hc⟩ : ∃ c, c = cntIn ms xs[k].members := ⟨_, rfl⟩
      rw [← hc] at hcl hc8
      have HC := hid hc
      have xB : Ext w w2 := (by repeat (first | with_reducible exact Ext.refl _ | with_reducible assumption | with_reducible refine Ext.drew ?_ | with_reducible refine Ext.alloc ?_ _ | (refine Ext.setCell ?_ (by simp) _) | with_reducible refine Ext.trans ?_ (by with_reducible assumption)))
      clear hc x2
      by_cases hgt : s.1 < c
      · go_wp2
        go_roundw
        case rel => exact ⟨k + 1, (c, xs[k].id), by omega, by go_num, by rw [HT.out, ← HS.out]; unfold mostStep; rw [← HC.out, if_pos hgt], rfl, rfl, xB⟩
        case measure => simp [intOf]; omega
      · go_wp2
        go_roundw
        case rel => exact ⟨k + 1, s, by omega, by go_num, by rw [HT.out, ← HS.out]; unfold mostStep; rw [← HC.out, if_neg hgt], rfl, rfl, xB⟩
        case measure => simp [intOf]; omega
    · go_wp2
      go_ret
      exact ⟨ret_int (by rw [HS.out, List.take_of_length_le (by omega)]; rfl), hx⟩
end Go.Proofs.Ytfcbapaojoecgab
