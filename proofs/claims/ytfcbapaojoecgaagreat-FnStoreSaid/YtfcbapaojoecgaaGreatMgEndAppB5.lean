/-
  SEVERAL SMALL TEXTS LAID TOGETHER: AppS, V2, RecS, Rid, StrC, DelQ, CloS, CmpR, CopyR, DelR, MarkRS, OrdC.
-/
import Derived.Test.YtfcbapaojoecgaaGreatMgEndAppB0
import Derived.Laws.OwnMore
import Derived.Test.YtfcbapaojoecgaaGreatMgEndAppB1
import Derived.StillTailTactics
import Derived.Deep.QuietTactic
import Derived.BigQuiet
import Derived.Test.YtfcbapaojoecgaaGreatMgEndAppB2
import Derived.Lib.SliceRun
import Derived.Deep.RegionHeld3
import Derived.Laws.IdiomStrings
import Derived.Laws.Concat

namespace Go.Proofs.YtfcbapaojoecgaaGreat
open Go.RowKit

theorem Bld.emp {α : Type} {R : RepO α} {W : World} {base g : Nat} {e : TypeId} (hb : base ≤ g) (h : W.heap[g]? = some (.cells #[] e (0, 0))) : Bld R W base e (.slice (some ⟨g, 0, none⟩) 0 0) ([] : List α) [] :=
  ⟨[], ⟨by simp, .inr ⟨g, 0, #[], rfl, hb, h, Nat.le_refl _, Nat.zero_le _, by simp, by simp⟩⟩, .nil, fun _ _ h => (by cases h), List.nodup_nil, fun _ h => by cases h⟩
theorem Sl.strs_some {w : World} {ad : Addr} {n cap : Nat} {xs : List ByteArray} (h : Sl strR w (.slice (some ad) n cap) xs) : ∀ j u, (xs.map Value.string)[j]? = some u → w.cell? (ad.add j) = some u := by
  intro j u hj
  rw [List.getElem?_map] at hj
  obtain ⟨x, hx, rfl⟩ := Option.map_eq_some_iff.1 hj
  obtain ⟨hi, hx⟩ := List.getElem?_eq_some_iff.1 hx
  obtain ⟨b, off, e, h1, hc⟩ := h.str hi
  injection e with e
  subst e
  rw [add_eq, hc, hx]
theorem heapA (w : World) (o o2 : Obj) : ((w.alloc o).alloc o2).heap[w.heap.size + 1]? = some o2 := by
  have := heap_alloc_new (w.alloc o) o2
  simpa using this
theorem heapB (w : World) (o o2 : Obj) : ((w.alloc o).alloc o2).heap[w.heap.size]? = some o :=
  (((Ext.refl (w.alloc o)).alloc o2).block (by simp)).trans (heap_alloc_new w o)
/-- onto an empty literal -/
theorem step_apps {P : Program} {ops : Array Oper} {o : Oper} {a : Act} {w : World} {K : Act → World → Prop} {Q : Exit → Act → World → Prop} {Z : Prop} {t e : TypeId} (E : ElemT P t e strO.n 16)
    (hgd : o.guard = none) (s x : Operand) (ho : o.op = .call { callee := .builtin .append, args := #[s, x], argTypes := #[t, t] })
    {base g : Nat} (hs : a.eval s = .slice (some ⟨g, 0, none⟩) 0 0) (hbg : base ≤ g) (hg : w.heap[g]? = some (.cells #[] e (0, 0))) {ad : Addr} {n k : Nat} (hx : a.eval x = .slice (some ad) n k) {ys : List ByteArray} (hy : Sl strR w (.slice (some ad) n k) ys)
    (hbytes : ys.length ≤ 1099511627776) {w0 : World} (h0 : w0.heap.size ≤ base) (hx0 : Ext w0 w)
    (h : ∀ v' w', Bld strO w' base e v' ys [] → Ext w0 w' → (∀ b, b < w.heap.size → b ≠ g → w'.heap[b]? = w.heap[b]?) → K (a.put o.dst v') w') :
    if Region.wanted o (yielded ops a.tmps) = true then Oper.wp P o a w K Q else Z := by
  have hw : Region.wanted o (yielded ops a.tmps) = true := by simp [Region.wanted, hgd]
  rw [if_pos hw]
  have hb : Bld strO w base e (.slice (some ⟨g, 0, none⟩) 0 0) ([] : List ByteArray) [] := Bld.emp hbg hg
  have hbase : base ≤ w.heap.size := Nat.le_trans hbg (Nat.le_of_lt (block_lt hg))
  obtain ⟨ht, i, z, hi, hz, hsize, hby2, hzs⟩ := E
  have hn : n = ys.length := hy.cap_.1
  by_cases hm : 0 < n
  · have hc := hy.strs_some
    have hl := hb.lt
    have hml := hy.strlen
    obtain ⟨cs, b1, b2, b3, b4, b5⟩ := hb
    refine wp_append_lies w s x t ho base e i z strO.n 16 ht hi hz hsize hby2 hzs (by decide) _ 0 cs hs b1 ad n k (ys.map Value.string) hx (by rw [List.length_map, hn]; exact (Nat.mul_one _).symm) hc (fun u hu => by
      obtain ⟨y, _, rfl⟩ := List.mem_map.1 hu; rfl) hm (by unfold maxLen; omega) (by omega) hbase w.heap.size rfl ?_
    intro g' cap w' hown hgr hat _
    have hcs : cs = [] := by
      have := b1.1
      exact List.eq_nil_of_length_eq_zero (by simpa using this)
    subst hcs
    refine h _ _ ⟨ys.map Value.string, by rw [← hn]; simpa using hown, strs_cells _ _ hml, fun _ _ h9 => (by cases h9), List.nodup_nil, fun _ h9 => by cases h9⟩ (hx0.grown hgr fun g9 hg9 => Nat.le_trans h0 (hl.2 g9 hg9).2) fun b hb hne => hgr.block b hb (fun e9 => hne (by simpa [Value.ownBlock] using e9))
  · have hn0 : n = 0 := by omega
    subst hn0
    have hys : ys = [] := List.eq_nil_of_length_eq_zero hn.symm
    subst hys
    have hr : (Builtin.append_ #[t, t] o.type #[.slice (some ⟨g, 0, none⟩) 0 0, .slice (some ad) 0 k]).run P w = .ok (.slice (some ⟨g, 0, none⟩) 0 0) w := by
      simp [Builtin.append_, run_underlying ht, sizeOf, typeInfo, hi, Builtin.lenOf, Builtin.firstCells, storeCells, loadCells, loadCellsFrom]
    unfold Oper.wp execOp
    simp only [ho, resolve, invoke, builtin, Sem.run_bind, Sem.run_pure, Result.andThen_ok, List.map_toArray, List.map_cons, List.map_nil, hs, hx, hr]
    exact h _ _ hb hx0 fun _ _ _ => rfl
/-- a block of another element type is none of the row's -/
theorem Bld.own_ne {w : World} {base g : Nat} {e T : TypeId} {v : Value} {xs : List ByteArray} {cs9 : List Value} (h : Bld strO w base e v xs []) (h8 : Blk w g T cs9) (hT : e ≠ T) : ∃ F, OwnSl strO w v xs F ∧ F.Nodup ∧ (∀ b ∈ F, base ≤ b) ∧ g ∉ F := by
  obtain ⟨cs, h1, h2, h3, h4, h5⟩ := h
  rcases h1.2 with ⟨rfl, hn⟩ | ⟨g', cap, cur, rfl, hb, hh, hnc, hcm, hcs, htake⟩
  · have : xs = [] := List.eq_nil_of_length_eq_zero hn
    exact ⟨[], .inl ⟨this, rfl, none, 0, rfl, Nat.zero_le _⟩, List.nodup_nil, (fun _ h => by cases h), (fun h => by cases h)⟩
  · refine ⟨[g'], .inr ⟨g', 0, cap, cur, e, [], rfl, ⟨hnc, hcm⟩, hh, rfl, ?_, by rw [List.drop_zero, htake]; exact h2⟩, by simp, fun b hb2 => ?_, fun hm => ?_⟩
    · rw [hcs, Nat.zero_add]; exact Nat.mul_le_mul_right _ hnc
    · rw [List.mem_singleton] at hb2
      rw [hb2]; exact hb
    · rw [List.mem_singleton] at hm
      subst hm
      have e9 := hh.symm.trans h8.out
      injection e9 with e9
      injection e9 with _ e9 _
      exact hT e9
end Go.Proofs.YtfcbapaojoecgaaGreat

namespace Go.Proofs.YtfcbapaojoecgaaGreat
open Go.RowKit

def cmpB (a b : Bool) : Int := if a == b then 0 else if b then -1 else 1
/-- the first that is not 0 -/
def firstNZ : List Int → Int
  | [] => 0
  | x :: xs => if x ≠ 0 then x else firstNZ xs
def cmpV (x y : Verdict) : Int := firstNZ [cmpI x.a y.a, cmpI x.b y.b, cmpI x.time y.time, cmpB x.same y.same]

theorem cmpB_64 (a b : Bool) : I64 (cmpB a b) := by unfold I64 cmpB; split <;> (try split) <;> omega

set_option maxHeartbeats 400000 in
theorem cmp_isNaN (a : Int) (w : World) :
    Calls Tryz.prog 152 #[.int .i64 a] w fun e w2 => e = .returned (.bool false) ∧ w = w2 := by
  go_enter Tryz.func152, Tryz.ntmps152
  go_wp2
  all_goals go_ret
  all_goals (refine ⟨?_, rfl⟩; simp)

set_option maxHeartbeats 400000 in
theorem cmp_Compare (a b : Int) (w : World) :
    Calls Tryz.prog 107 #[.int .i64 a, .int .i64 b] w fun e w2 => e = .returned (.int .i64 (cmpI a b)) ∧ w2 = w := by
  go_enter Tryz.func107, Tryz.ntmps107
  go_wp2_with (go_at_call 152; refine (cmp_isNaN _ _).mono ?_; rintro e w2 ⟨rfl, rfl⟩)
  all_goals go_ret
  all_goals refine ⟨?_, rfl⟩
  all_goals (simp_all [cmpI]; try omega)

set_option maxHeartbeats 400000 in
theorem impl_compareSame (a b : Bool) (w : World) :
    Calls Tryz.prog 108 #[.bool a, .bool b] w fun e w2 => e = .returned (.int .i64 (cmpB a b)) ∧ w2 = w := by
  go_enter Tryz.func108, Tryz.ntmps108
  cases a <;> cases b <;> go_wp2
  all_goals go_ret
  all_goals refine ⟨?_, rfl⟩
  all_goals simp [cmpB]

theorem firstNZ_append (l r : List Int) (h : ∀ x ∈ l, x = 0) : firstNZ (l ++ r) = firstNZ r := by
  induction l with
  | nil => rfl
  | cons x l ih => simp [firstNZ, h x (List.mem_cons_self ..), ih (fun y hy => h y (List.mem_cons_of_mem _ hy))]

theorem firstNZ_at (xs : List Int) (k : Nat) (hlt : k < xs.length) (hz : ∀ x ∈ xs.take k, x = 0) (h0 : ¬ xs[k] = 0) : firstNZ xs = xs[k] := by
  have e : xs = xs.take k ++ (xs[k] :: xs.drop (k + 1)) := by simp
  have e2 : firstNZ (xs.take k ++ (xs[k] :: xs.drop (k + 1))) = xs[k] := by
    rw [firstNZ_append _ _ hz]; simp [firstNZ, h0]
  rw [← e] at e2; exact e2
theorem firstNZ_all (xs : List Int) (k : Nat) (hk : ¬ k < xs.length) (hz : ∀ x ∈ xs.take k, x = 0) : firstNZ xs = 0 := by
  rw [List.take_of_length_le (by omega)] at hz
  have := firstNZ_append xs [] hz
  rw [List.append_nil] at this
  exact this

set_option maxHeartbeats 400000 in
theorem cmp_Or (v : Value) (xs : List Int) (w : World) (h : Sl intR w v xs) :
    Calls Tryz.prog 106 #[v] w fun e w2 => e = .returned (.int .i64 (firstNZ xs)) ∧ w = w2 := by
  obtain ⟨A, cap, rfl, hm⟩ := h.form
  go_enter Tryz.func106, Tryz.ntmps106
  go_wp2
  go_loop [5, 8] (fun t i => ∃ k : Nat, k ≤ xs.length ∧ i = .int .i64 k ∧ ∀ x ∈ xs.take k, x = 0) (fun _ i => xs.length - (intOf i).toNat)
  case atStart => exact ⟨0, Nat.zero_le _, rfl, by simp⟩
  case round =>
    obtain ⟨k, hk, rfl, hz⟩ := hrel
    have HZ := hid hz
    clear hz
    by_cases hlt : k < xs.length
    · obtain ⟨b, off, rfl, hb, hc⟩ := h.int hlt
      by_cases h0 : xs[k] = 0
      · have h0' : (xs[k] != 0) = false := by simp [h0]
        have H0 := hid h0
        clear h0
        go_wp2
        go_round
        case rel => exact ⟨k + 1, by omega, by go_num, by
          intro x hx
          rw [List.take_succ_eq_append_getElem hlt] at hx
          rcases List.mem_append.1 hx with hx | hx
          · exact HZ.out x hx
          · simp only [List.mem_singleton] at hx; rw [hx]; exact H0.out⟩
        case measure => simp [intOf]; omega
      · have h0' : (xs[k] != 0) = true := by simp [h0]
        go_wp2
        go_ret
        exact ⟨ret_int (firstNZ_at xs k hlt HZ.out h0).symm, rfl⟩
    · go_wp2
      go_ret
      exact ⟨ret_int (firstNZ_all xs k hlt HZ.out).symm, rfl⟩

set_option maxHeartbeats 400000 in
set_option maxRecDepth 20000 in
theorem impl_CompareVerdicts (x y : Verdict) (w : World) :
    Calls Tryz.prog 54 #[x.val, y.val] w fun e w2 => e = .returned (.int .i64 (cmpV x y)) ∧ Ext w w2 := by
  obtain ⟨a, b, s, t⟩ := x
  obtain ⟨a', b', s', t'⟩ := y
  unfold Verdict.val
  go_enter Tryz.func54, Tryz.ntmps54
  go_wp2
  refine wp_region_still_tail 20 (by kernel_rfl) (by kernel_rfl) ?_
  simp only [List.take_succ_cons, List.take_zero, List.drop_succ_cons, List.drop_zero]
  change wpStill _ _ (World.drew _) _ _ _
  repeat (first | still_step | still_call (cmp_Compare _ _ _) | still_call (impl_compareSame _ _ _))
  refine wpStill_nil ?_
  change wpList _ _ _ _ _ (World.drew _)
  go_wp2_with fail
  refine (cmp_Or _ [cmpI a a', cmpI b b', cmpI t t', cmpB s s'] _ ?_).mono ?_
  · exact (Sl.new_ints _ [cmpI a a', cmpI b b', cmpI t t', cmpB s s'] _ _ _ (by simp) (by simp) (by simp [cmpI_64, cmpB_64]) (by simp [maxLen])).mono (Ext.refl _).drew
  rintro e w2 ⟨rfl, rfl⟩
  go_wp2
  go_ret
  exact ⟨ret_int rfl, (by repeat (first | with_reducible exact Ext.refl _ | with_reducible assumption | with_reducible refine Ext.drew ?_ | with_reducible refine Ext.alloc ?_ _ | with_reducible refine Ext.trans ?_ (by with_reducible assumption)))⟩

set_option maxHeartbeats 400000 in
set_option maxRecDepth 20000 in
theorem spec_CompareVerdicts (x y : Verdict) (w : World) :
    Calls Tryz.prog 88 #[x.val, y.val] w fun e w2 => e = .returned (.int .i64 (cmpV x y)) ∧ Ext w w2 := by
  obtain ⟨a, b, s, t⟩ := x
  obtain ⟨a', b', s', t'⟩ := y
  unfold Verdict.val
  go_enter Tryz.func88, Tryz.ntmps88
  go_wp2_with (go_at_call 133; refine (spec_l8Int _ _ _).mono ?_; rintro e w2 ⟨rfl, rfl⟩)
  all_goals go_ret
  all_goals refine ⟨ret_int ?_, (by repeat (first | with_reducible exact Ext.refl _ | with_reducible assumption | with_reducible refine Ext.drew ?_ | with_reducible refine Ext.alloc ?_ _ | with_reducible refine Ext.trans ?_ (by with_reducible assumption)))⟩
  all_goals (simp_all [cmpV, firstNZ, cmpB]; done)

end Go.Proofs.YtfcbapaojoecgaaGreat

namespace Go.Proofs.YtfcbapaojoecgaaGreat
open Go.RowKit

theorem Sl.record {w : World} {A : Option Addr} {n cap : Nat} {xs : List Record} (h : Sl recordR w (.slice A n cap) xs) {i : Nat} (hi : i < xs.length) :
    ∃ b off A2 cap2, A = some ⟨b, off, none⟩ ∧ xs[i].ok ∧ Sl strR w (.slice A2 xs[i].fields.length cap2) xs[i].fields ∧ w.cell? ⟨b, off + i * 4, none⟩ = some (.int .i64 xs[i].source) ∧ w.cell? ⟨b, off + i * 4 + 1, none⟩ = some (.int .i64 xs[i].key) ∧ w.cell? ⟨b, off + i * 4 + 2, none⟩ = some (.int .i64 xs[i].version) ∧ w.cell? ⟨b, off + i * 4 + 3, none⟩ = some (.slice A2 xs[i].fields.length cap2) := by
  obtain ⟨b, off, cs, rfl, ⟨m, rfl, hok, hs⟩, hc⟩ := h.at_ hi
  have hs' := hs
  obtain ⟨A2, cap2, rfl, _⟩ := hs
  exact ⟨b, off, A2, cap2, rfl, hok, hs', by simpa [recordR, Record.cells] using hc 0 (by simp [recordR]), by simpa [recordR, Record.cells] using hc 1 (by simp [recordR]), by simpa [recordR, Record.cells] using hc 2 (by simp [recordR]), by simpa [recordR, Record.cells] using hc 3 (by simp [recordR])⟩

set_option maxHeartbeats 400000 in
theorem szRecordS_c (v : Value) (xs : List Record) (left : Int) (w : World) (h : Sl recordR w v xs) (h0 : 0 ≤ left) (h1 : left ≤ 1048576) :
    Calls Tryz.prog 31 #[v, .int .i64 left] w fun e w2 => e = .returned (.int .i64 (szv ((xs.length + sumBy msRec xs : Nat) : Int) left)) ∧ Ext w w2 := by
  obtain ⟨A, cap, rfl, hm⟩ := h.form
  by_cases hlt : left < xs.length
  · go_enter Tryz.func31, Tryz.ntmps31
    go_wp2
    go_ret
    exact ⟨ret_int (by symm; unfold szv; rw [if_pos (by omega)]), Ext.refl _⟩
  · go_enter Tryz.func31, Tryz.ntmps31
    go_wp2
    go_loopw [1, 5] (fun l i wr => ∃ k : Nat, k ≤ xs.length ∧ i = .int .i64 k ∧ sumBy msRec (xs.take k) + xs.length ≤ left ∧ l = .int .i64 (left - xs.length - (sumBy msRec (xs.take k) : Nat)) ∧ Ext w wr) (fun _ i _ => xs.length - (intOf i).toNat)
    case atStart => exact ⟨0, Nat.zero_le _, rfl, by simp [sumBy]; omega, by simp [sumBy], Ext.refl _⟩
    case round =>
      obtain ⟨k, hk, rfl, hs, rfl, hx⟩ := hrel
      by_cases hlk : k < xs.length
      · obtain ⟨b, off, A2, cap2, rfl, hok, hsl, hc0, hc1, hc2, hc3⟩ := (h.mono hx).record hlk
        have hst := sumBy_take msRec xs k hlk
        have hsa := sumBy_at msRec xs k hlk
        have HS := hid hst
        clear hst
        go_wp2_with fail
        refine (szRecord_c _ xs[k] _ _ ⟨_, rfl, hok, hsl⟩ (by omega) (by omega)).mono ?_
        rintro e w2 ⟨rfl, x2⟩
        obtain ⟨M, hM⟩ : ∃ M, M = msRec xs[k] := ⟨_, rfl⟩
        rw [show ((msRec xs[k] : Nat) : Int) = (M : Int) by rw [hM]]
        rw [← hM] at hsa
        have HM := hid hM
        clear hM hok
        by_cases hfit : left - xs.length - (sumBy msRec (xs.take k) : Nat) < M
        · rw [show szv (M : Int) (left - xs.length - (sumBy msRec (xs.take k) : Nat)) = -1 by simp [szv, hfit]]
          go_wp2
          go_ret
          exact ⟨ret_int (by symm; unfold szv; rw [if_pos (by omega)]), hx.trans x2⟩
        · rw [show szv (M : Int) (left - xs.length - (sumBy msRec (xs.take k) : Nat)) = left - xs.length - (sumBy msRec (xs.take k) : Nat) - M by simp [szv, hfit]]
          go_wp2
          go_roundw
          case rel => exact ⟨k + 1, by omega, by go_num, by rw [HS.out, ← HM.out]; omega, by rw [HS.out, ← HM.out]; congr 1; omega, hx.trans x2⟩
          case measure => simp [intOf]; omega
      · go_wp2
        go_ret
        rw [List.take_of_length_le (by omega)] at hs
        exact ⟨ret_int (by rw [List.take_of_length_le (by omega)]; unfold szv; rw [if_neg (by omega)]; omega), hx⟩

theorem infoRecord : (Tryz.prog.info? 72).map (fun i => (i.zero, i.size, i.bytes)) = some (some (.agg #[.int .i64 0, .int .i64 0, .int .i64 0, .slice none 0 0]), 4, 48) := by kernel_rfl
def recordZ : List Value := [.int .i64 0, .int .i64 0, .int .i64 0, .slice none 0 0]

set_option maxHeartbeats 400000 in
set_option maxRecDepth 100000 in
theorem toRecordS_c (v : Value) (xs : List Record) (w : World) (h : Sl recordR w v xs) (hb : xs.length + sumBy msRec xs ≤ 1048576) :
    Calls Tryz.prog 42 #[v] w fun e w2 => ∃ v2 F, e = .returned v2 ∧ OwnSl recordO w2 v2 xs F ∧ NewF w F ∧ Ext w w2 := by
  obtain ⟨A, cap, rfl, hm⟩ := h.form
  obtain ⟨i0, hi0, hz0, hz1, hz2⟩ := info_parts infoRecord
  have hmk := run_mk (P := Tryz.prog) 31 72 i0 _ recordZ 48 Tryz.underlying31 hi0 hz0 rfl hz1 hz2 xs.length (by omega) hm
  go_enter Tryz.func42, Tryz.ntmps42
  go_wp2
  go_loopw [4] (fun i wr => ∃ (k : Nat) (done : List Value) (F : List Nat), k ≤ xs.length ∧ i = .int .i64 k ∧ Blk wr w.heap.size 72 (done ++ (List.replicate (xs.length - k) recordZ).flatten) ∧
    OwnCells recordO wr done (xs.take k) F ∧ FromF w.heap.size F ∧ Ext w wr) (fun i _ => xs.length - (intOf i).toNat)
  case atStart => exact ⟨0, [], [], Nat.zero_le _, rfl, by simpa using Blk.new w 72 (List.replicate xs.length recordZ).flatten.toArray, .nil, .nil _, (Ext.refl _).alloc _⟩
  case round =>
    obtain ⟨k, done, F, hk, rfl, hblk, hown, hF, hx⟩ := hrel
    by_cases hlt : k < xs.length
    · obtain ⟨b, off, A2, cap2, rfl, hok, hsl, hc0, hc1, hc2, hc3⟩ := (h.mono hx).record hlt
      have hz : (List.replicate (xs.length - k) recordZ).flatten = .int .i64 0 :: .int .i64 0 :: .int .i64 0 :: .slice none 0 0 :: (List.replicate (xs.length - (k + 1)) recordZ).flatten := by
        rw [show xs.length - k = (xs.length - (k + 1)) + 1 by omega, List.replicate_succ]; rfl
      rw [hz] at hblk
      clear hz
      have hl : done.length = k * 4 := by rw [hown.length]; simp [recordO, recordR]; omega
      have hgl := block_lt hblk.out
      have HL := hid hl
      have hbk : xs[k].fields.length ≤ 1048576 := by have := sumBy_at msRec xs k hlt; simp only [msRec] at this; omega
      clear hl
      go_wp2_with fail
      refine (toRecord_c _ xs[k] _ ⟨_, rfl, hok, hsl⟩ hbk).mono ?_
      rintro e w2 ⟨v2, F2, rfl, ⟨m2, rfl, _, ho⟩, hn, x2⟩
      have hblk2 := hblk.ext x2
      obtain ⟨A3, cap3, e3, _⟩ := ho.form
      subst e3
      obtain ⟨p0, q0⟩ := hblk2.at_ HL.out
      have b0 := hblk2.store HL.out (Value.int .i64 xs[k].source)
      have l0 : (done ++ [(Value.int .i64 xs[k].source)]).length = k * 4 + 1 := by rw [List.length_append, HL.out]; rfl
      obtain ⟨p1, q1⟩ := b0.at_ l0
      have b1 := b0.store l0 (Value.int .i64 xs[k].key)
      have l1 : (done ++ [(Value.int .i64 xs[k].source)] ++ [(Value.int .i64 xs[k].key)]).length = k * 4 + 2 := by rw [List.length_append, l0]; rfl
      obtain ⟨p2, q2⟩ := b1.at_ l1
      have b2 := b1.store l1 (Value.int .i64 xs[k].version)
      have l2 : (done ++ [(Value.int .i64 xs[k].source)] ++ [(Value.int .i64 xs[k].key)] ++ [(Value.int .i64 xs[k].version)]).length = k * 4 + 3 := by rw [List.length_append, l1]; rfl
      obtain ⟨p3, q3⟩ := b2.at_ l2
      have b3 := b2.store l2 (Value.slice A3 xs[k].fields.length cap3)
      have hk2 : ∀ b, b ≠ w.heap.size → ((((w2.setCell ⟨w.heap.size, k * 4, none⟩ (Value.int .i64 xs[k].source)).setCell ⟨w.heap.size, k * 4 + 1, none⟩ (Value.int .i64 xs[k].key)).setCell ⟨w.heap.size, k * 4 + 2, none⟩ (Value.int .i64 xs[k].version)).setCell ⟨w.heap.size, k * 4 + 3, none⟩ (Value.slice A3 xs[k].fields.length cap3)).heap[b]? = w2.heap[b]? :=
        fun b hb => ((keep_setCell hb).trans ((keep_setCell hb).trans ((keep_setCell hb).trans (keep_setCell hb))))
      obtain ⟨ho3, hF3⟩ := hown.step (R := recordO) hF x2 ⟨_, rfl, hok, ho⟩ hn hgl hk2
      have HK := hid (And.intro ho3 hF3)
      have HST := hid b3
      clear hblk hblk2 HL b0 b1 b2 b3 l0 l1 l2 hk2 ho3 hF3 hok
      go_wp2
      go_roundw
      case rel => exact ⟨k + 1, done ++ [(Value.int .i64 xs[k].source), (Value.int .i64 xs[k].key), (Value.int .i64 xs[k].version), (Value.slice A3 xs[k].fields.length cap3)], F ++ F2, by omega, by go_num, by simpa using HST.out, by rw [List.take_succ_eq_append_getElem hlt]; simpa [Record.cells] using HK.out.1, HK.out.2, (((((hx.trans x2).setCell (by simp) _).setCell (by simp) _).setCell (by simp) _).setCell (by simp) _)⟩
      case measure => simp [intOf]; omega
    · go_wp2
      go_ret
      rw [show xs.length - k = 0 by omega, List.replicate_zero, List.flatten_nil, List.append_nil] at hblk
      rw [List.take_of_length_le (by omega)] at hown
      exact ⟨_, _, rfl, OwnSl.of_blk hblk (by unfold maxLen; omega) hown, hF.new rfl, hx⟩

set_option maxHeartbeats 400000 in
set_option maxRecDepth 20000 in
theorem eqRecordS_c (v u : Value) (xs ys : List Record) (w : World) (h : Sl recordR w v xs) (k : Sl recordR w u ys) :
    Calls Tryz.prog 56 #[v, u] w fun e w2 => e = .returned (.bool (eqB xs ys)) ∧ Ext w w2 := by
  obtain ⟨A, cap, rfl, hm⟩ := h.form
  obtain ⟨B, cap2, rfl, hm2⟩ := k.form
  by_cases hl : xs.length = ys.length
  · have hl' : ((xs.length : Int) != (ys.length : Int)) = false := by simp [hl]
    have HL := hid hl
    clear hl
    go_enter Tryz.func56, Tryz.ntmps56
    go_wp2
    go_loopw [5] (fun i wr => ∃ k2 : Nat, k2 ≤ xs.length ∧ i = .int .i64 k2 ∧ xs.take k2 = ys.take k2 ∧ Ext w wr) (fun i _ => xs.length - (intOf i).toNat)
    case atStart => exact ⟨0, Nat.zero_le _, rfl, by simp, Ext.refl _⟩
    case round =>
      obtain ⟨k2, hk, rfl, he, hx⟩ := hrel
      have HE := hid he
      clear he
      by_cases hlt : k2 < xs.length
      · have hlt2 : k2 < ys.length := by have := HL.out; omega
        obtain ⟨b, off, A2, cap3, rfl, hok, hi, hc0, hc1, hc2, hc3⟩ := (h.mono hx).record hlt
        obtain ⟨b2, off2, A3, cap4, rfl, hok2, hi2, hd0, hd1, hd2, hd3⟩ := (k.mono hx).record hlt2
        have hcz0 : ∀ z : ExtOf wr, z.1.cell? ⟨b, off + k2 * 4, none⟩ = _ := fun z => z.2.cell hc0
        have hdz0 : ∀ z : ExtOf wr, z.1.cell? ⟨b2, off2 + k2 * 4, none⟩ = _ := fun z => z.2.cell hd0
        have hcz1 : ∀ z : ExtOf wr, z.1.cell? ⟨b, off + k2 * 4 + 1, none⟩ = _ := fun z => z.2.cell hc1
        have hdz1 : ∀ z : ExtOf wr, z.1.cell? ⟨b2, off2 + k2 * 4 + 1, none⟩ = _ := fun z => z.2.cell hd1
        have hcz2 : ∀ z : ExtOf wr, z.1.cell? ⟨b, off + k2 * 4 + 2, none⟩ = _ := fun z => z.2.cell hc2
        have hdz2 : ∀ z : ExtOf wr, z.1.cell? ⟨b2, off2 + k2 * 4 + 2, none⟩ = _ := fun z => z.2.cell hd2
        have hcz3 : ∀ z : ExtOf wr, z.1.cell? ⟨b, off + k2 * 4 + 3, none⟩ = _ := fun z => z.2.cell hc3
        have hdz3 : ∀ z : ExtOf wr, z.1.cell? ⟨b2, off2 + k2 * 4 + 3, none⟩ = _ := fun z => z.2.cell hd3
        by_cases h0 : xs[k2] = ys[k2]
        · have H0 := hid h0
          clear h0
          go_wp2_with fail
          refine wp_region_ext (by kernel_rfl) (by kernel_rfl) ?_
          repeat (go_big_quiet_step (((go_at_call 109; exact quiet_ext (eqRecord_c _ _ xs[k2] ys[k2] _ ⟨_, rfl, hok, hi.mono (Subtype.property _)⟩ ⟨_, rfl, hok2, hi2.mono (Subtype.property _)⟩)))))
          refine wpQuiet_nil ?_
          rintro w1 ⟨⟨_, x1⟩, rfl⟩
          rw [eqB_true H0.out]
          go_wp2
          go_roundw
          case rel => exact ⟨k2 + 1, by omega, by go_num, take_snoc_eq hlt hlt2 H0.out HE.out, hx.trans x1⟩
          case measure => simp [intOf]; omega
        · have H0 := hid h0
          clear h0
          go_wp2_with fail
          refine wp_region_ext (by kernel_rfl) (by kernel_rfl) ?_
          repeat (go_big_quiet_step (((go_at_call 109; exact quiet_ext (eqRecord_c _ _ xs[k2] ys[k2] _ ⟨_, rfl, hok, hi.mono (Subtype.property _)⟩ ⟨_, rfl, hok2, hi2.mono (Subtype.property _)⟩)))))
          refine wpQuiet_nil ?_
          rintro w1 ⟨⟨_, x1⟩, rfl⟩
          rw [eqB_false H0.out]
          go_wp2
          go_ret
          exact ⟨ret_bool (eqB_false (ne_of_at hlt hlt2 H0.out)).symm, hx.trans x1⟩
      · go_wp2
        go_ret
        exact ⟨ret_bool (eqB_true (eq_of_take hlt HL.out HE.out)).symm, hx⟩
  · have hl' : ((xs.length : Int) != (ys.length : Int)) = true := by simp; omega
    go_enter Tryz.func56, Tryz.ntmps56
    go_wp2
    go_ret
    exact ⟨ret_bool (eqB_false fun e => hl (by rw [e])).symm, Ext.refl _⟩
end Go.Proofs.YtfcbapaojoecgaaGreat

namespace Go.Proofs.YtfcbapaojoecgaaGreat
open Go.RowKit

def recID (r : Record) : Int := wrap64 (wrap64 (100 * r.source) + r.key)

set_option maxHeartbeats 400000 in
theorem spec_RecordID (v : Value) (r : Record) (w : World) (h : RecAt w v r) :
    Calls Tryz.prog 41 #[v] w fun e w2 => e = .returned (.int .i64 (recID r)) ∧ Ext w w2 := by
  obtain ⟨f, rfl, hok, hs⟩ := h
  go_enter Tryz.func41, Tryz.ntmps41
  go_wp2
  go_ret
  exact ⟨rfl, (by repeat (first | with_reducible exact Ext.refl _ | with_reducible assumption | with_reducible refine Ext.drew ?_ | with_reducible refine Ext.alloc ?_ _ | with_reducible refine Ext.trans ?_ (by with_reducible assumption)))⟩

set_option maxHeartbeats 400000 in
theorem impl_RecordID (v : Value) (r : Record) (w : World) (h : RecAt w v r) :
    Calls Tryz.prog 71 #[v] w fun e w2 => e = .returned (.int .i64 (recID r)) ∧ Ext w w2 := by
  obtain ⟨f, rfl, hok, hs⟩ := h
  go_enter Tryz.func71, Tryz.ntmps71
  go_wp2
  go_ret
  exact ⟨rfl, (by repeat (first | with_reducible exact Ext.refl _ | with_reducible assumption | with_reducible refine Ext.drew ?_ | with_reducible refine Ext.alloc ?_ _ | with_reducible refine Ext.trans ?_ (by with_reducible assumption)))⟩
end Go.Proofs.YtfcbapaojoecgaaGreat

namespace Go.Proofs.YtfcbapaojoecgaaGreat
open Go.RowKit

theorem bless_irr (l : List UInt8) : Op.bytesLess l l = false := by
  induction l with
  | nil => rfl
  | cons a l ih => simp [Op.bytesLess, ih]
def cmpS (a b : ByteArray) : Int := if Op.bytesLess a.toList b.toList then -1 else if a.toList == b.toList then 0 else 1
theorem toList_inj {a b : ByteArray} (h : (a.toList == b.toList) = true) : a = b := by
  cases Classical.em (a = b) with
  | inl e => exact e
  | inr e => rw [str_ne e] at h; cases h
theorem cmpS_lt {a b : ByteArray} (h : Op.bytesLess a.toList b.toList = true) : cmpS a b = -1 := by unfold cmpS; rw [h]; rfl
theorem cmpS_gt {a b : ByteArray} (h : Op.bytesLess a.toList b.toList = false) (h2 : (a.toList == b.toList) = false) : cmpS a b = 1 := by unfold cmpS; rw [h, h2]; rfl
theorem cmpS_eq {a b : ByteArray} (h : (a.toList == b.toList) = true) : cmpS a b = 0 := by
  have e := toList_inj h
  subst e
  unfold cmpS; rw [bless_irr, h]; rfl
theorem cmpS_zero {a b : ByteArray} : cmpS a b = 0 ↔ a = b := by
  refine ⟨fun h => ?_, fun h => cmpS_eq (str_eq h)⟩
  unfold cmpS at h
  split at h
  · omega
  · split at h
    · rename_i e; exact toList_inj e
    · omega
theorem cmpS_64 (a b : ByteArray) : I64 (cmpS a b) := by unfold I64 cmpS; split <;> (try split) <;> omega
def cmpSL : List ByteArray → List ByteArray → Int
  | [], [] => 0
  | [], _ :: _ => -1
  | _ :: _, [] => 1
  | x :: xs, y :: ys => if cmpS x y = 0 then cmpSL xs ys else cmpS x y
theorem cmpSL_skip : ∀ {xs ys : List ByteArray} {k : Nat}, xs.take k = ys.take k → k ≤ xs.length → k ≤ ys.length → cmpSL xs ys = cmpSL (xs.drop k) (ys.drop k)
  | _, _, 0, _, _, _ => rfl
  | [], _, k + 1, _, h, _ => by simp at h
  | _ :: _, [], k + 1, _, _, h => by simp at h
  | x :: xs, y :: ys, k + 1, h, h1, h2 => by
    simp only [List.take_succ_cons, List.cons.injEq] at h
    rw [cmpSL, if_pos (cmpS_zero.2 h.1), List.drop_succ_cons, List.drop_succ_cons]
    exact cmpSL_skip h.2 (by simpa using h1) (by simpa using h2)
theorem cmpSL_at {xs ys : List ByteArray} {k : Nat} (h1 : k < xs.length) (h2 : k < ys.length) (h : xs.take k = ys.take k) (hne : ¬ cmpS xs[k] ys[k] = 0) : cmpSL xs ys = cmpS xs[k] ys[k] := by
  rw [cmpSL_skip h (by omega) (by omega), List.drop_eq_getElem_cons h1, List.drop_eq_getElem_cons h2, cmpSL, if_neg hne]
theorem cmpSL_end {xs ys : List ByteArray} {k : Nat} (hk1 : k ≤ xs.length) (hk2 : k ≤ ys.length) (h : xs.take k = ys.take k) (he : ¬ (k < xs.length ∧ k < ys.length)) : cmpSL xs ys = cmpI xs.length ys.length := by
  rw [cmpSL_skip h hk1 hk2]
  by_cases h1 : k < xs.length
  · have h2 : k = ys.length := by omega
    rw [List.drop_eq_getElem_cons h1, show ys.drop k = [] from List.drop_of_length_le (by omega), cmpSL]
    unfold cmpI; rw [if_neg (by omega), if_pos (by omega)]
  · rw [show xs.drop k = [] from List.drop_of_length_le (by omega)]
    by_cases h2 : k < ys.length
    · rw [List.drop_eq_getElem_cons h2, cmpSL]
      unfold cmpI; rw [if_pos (by omega)]
    · rw [show ys.drop k = [] from List.drop_of_length_le (by omega), cmpSL]
      unfold cmpI; rw [if_neg (by omega), if_neg (by omega)]
theorem cmpSL_zero : ∀ {xs ys : List ByteArray}, cmpSL xs ys = 0 ↔ xs = ys
  | [], [] => by simp [cmpSL]
  | [], _ :: _ => by simp [cmpSL]
  | _ :: _, [] => by simp [cmpSL]
  | x :: xs, y :: ys => by
    rw [cmpSL]
    split
    · rename_i h; rw [cmpSL_zero]; simp [cmpS_zero.1 h]
    · rename_i h
      refine ⟨fun e => absurd e h, fun e => ?_⟩
      injection e with e1 e2
      exact absurd (cmpS_zero.2 e1) h
theorem cmpSL_64 : ∀ (xs ys : List ByteArray), I64 (cmpSL xs ys)
  | [], [] => by simp [cmpSL, I64]
  | [], _ :: _ => by simp [cmpSL, I64]
  | _ :: _, [] => by simp [cmpSL, I64]
  | x :: xs, y :: ys => by
    rw [cmpSL]
    split
    · exact cmpSL_64 xs ys
    · exact cmpS_64 _ _

set_option maxHeartbeats 400000 in
theorem cmp_isNaN_s (a : ByteArray) (w : World) :
    Calls Tryz.prog 174 #[.string a] w fun e w2 => e = .returned (.bool false) ∧ w = w2 := by
  go_enter Tryz.func174, Tryz.ntmps174
  go_wp2
  go_ret
  exact ⟨rfl, rfl⟩
set_option maxHeartbeats 400000 in
theorem cmp_Compare_s (a b : ByteArray) (w : World) :
    Calls Tryz.prog 164 #[.string a, .string b] w fun e w2 => e = .returned (.int .i64 (cmpS a b)) ∧ w = w2 := by
  cases hl : Op.bytesLess a.toList b.toList with
  | true =>
    have H := hid (cmpS_lt hl)
    go_enter Tryz.func164, Tryz.ntmps164
    go_wp2_with (go_at_call 174; refine (cmp_isNaN_s _ _).mono ?_; rintro e w2 ⟨rfl, rfl⟩)
    go_ret
    exact ⟨ret_int H.out.symm, rfl⟩
  | false =>
    cases he : (a.toList == b.toList) with
    | true =>
      have H := hid (cmpS_eq he)
      go_enter Tryz.func164, Tryz.ntmps164
      go_wp2_with (go_at_call 174; refine (cmp_isNaN_s _ _).mono ?_; rintro e w2 ⟨rfl, rfl⟩)
      go_ret
      exact ⟨ret_int H.out.symm, rfl⟩
    | false =>
      have H := hid (cmpS_gt hl he)
      go_enter Tryz.func164, Tryz.ntmps164
      go_wp2_with (go_at_call 174; refine (cmp_isNaN_s _ _).mono ?_; rintro e w2 ⟨rfl, rfl⟩)
      go_ret
      exact ⟨ret_int H.out.symm, rfl⟩

set_option maxHeartbeats 400000 in
theorem slices_Compare_s (v u : Value) (xs ys : List ByteArray) (w : World) (h : Sl strR w v xs) (k : Sl strR w u ys) :
    Calls Tryz.prog 141 #[v, u] w fun e w2 => e = .returned (.int .i64 (cmpSL xs ys)) ∧ w = w2 := by
  obtain ⟨A, cap, rfl, hm⟩ := h.form
  obtain ⟨B, cap2, rfl, hm2⟩ := k.form
  go_enter Tryz.func141, Tryz.ntmps141
  go_wp2
  go_loop [11] (fun i => ∃ j : Nat, j ≤ xs.length ∧ j ≤ ys.length ∧ i = .int .i64 j ∧ xs.take j = ys.take j) (fun i => xs.length - (intOf i).toNat)
  case atStart => exact ⟨0, Nat.zero_le _, Nat.zero_le _, rfl, by simp⟩
  case round =>
    obtain ⟨j, hj1, hj2, rfl, he⟩ := hrel
    have HE := hid he
    clear he
    by_cases hlt : j < xs.length
    · obtain ⟨b, off, rfl, hI, hc⟩ := h.str hlt
      by_cases hlt2 : j < ys.length
      · obtain ⟨b2, off2, rfl, hI2, hc2⟩ := k.str hlt2
        have h64 := (cmpS_64 xs[j] ys[j]).out
        by_cases h0 : cmpS xs[j] ys[j] = 0
        · have H0 := hid h0
          have h0' : (cmpS xs[j] ys[j] != 0) = false := by simp [h0]
          clear h0
          go_wp2_with (go_at_call 164; refine (cmp_Compare_s _ _ _).mono ?_; rintro e w2 ⟨rfl, rfl⟩)
          go_round
          case rel => exact ⟨j + 1, by omega, by omega, by go_num, take_snoc_eq hlt hlt2 (cmpS_zero.1 H0.out) HE.out⟩
          case measure => simp [intOf]; omega
        · have H0 := hid h0
          have h0' : (cmpS xs[j] ys[j] != 0) = true := by simp [h0]
          clear h0
          go_wp2_with (go_at_call 164; refine (cmp_Compare_s _ _ _).mono ?_; rintro e w2 ⟨rfl, rfl⟩)
          go_ret
          exact ⟨ret_int (cmpSL_at hlt hlt2 HE.out H0.out).symm, rfl⟩
      · have HX := hid (cmpSL_end hj1 hj2 HE.out (by omega))
        go_wp2_with fail
        go_ret
        exact ⟨ret_int (by rw [HX.out]; unfold cmpI; rw [if_neg (by omega), if_pos (by omega)]), rfl⟩
    · have HX := hid (cmpSL_end hj1 hj2 HE.out (by omega))
      by_cases hll : xs.length < ys.length
      · go_wp2_with fail
        go_ret
        exact ⟨ret_int (by rw [HX.out]; unfold cmpI; rw [if_pos (by omega)]), rfl⟩
      · go_wp2_with fail
        go_ret
        exact ⟨ret_int (by rw [HX.out]; unfold cmpI; rw [if_neg (by omega), if_neg (by omega)]), rfl⟩
end Go.Proofs.YtfcbapaojoecgaaGreat

namespace Go.Proofs.YtfcbapaojoecgaaGreat
open Go.RowKit

theorem idxF_ltq {α : Type} (p : α → Bool) : ∀ (xs : List α) (k : Nat), (idxF p k xs = -1 ∧ ∀ x ∈ xs, p x = false) ∨ ∃ j, j < xs.length ∧ idxF p k xs = ((k + j : Nat) : Int) ∧ ∃ h : j < xs.length, p xs[j] = true
  | [], k => .inl ⟨rfl, fun _ h => by cases h⟩
  | x :: xs, k => by
    by_cases hp : p x = true
    · exact .inr ⟨0, by simp, by simp [idxF, hp], by simp, by simpa using hp⟩
    · have hp' : p x = false := by simpa using hp
      rcases idxF_ltq p xs (k + 1) with ⟨e, h⟩ | ⟨j, hj, e, hj2, h⟩
      · refine .inl ⟨by simp [idxF, hp', e], fun y hy => ?_⟩
        rcases List.mem_cons.1 hy with rfl | hy
        · exact hp'
        · exact h y hy
      · exact .inr ⟨j + 1, by simpa using hj, by simp only [idxF, hp', Bool.false_eq_true, if_false, e]; omega, by simpa using hj, by simpa using h⟩
theorem idxF_first {α : Type} (p : α → Bool) : ∀ (xs : List α) (k j : Nat), idxF p k xs = ((k + j : Nat) : Int) → ∀ x ∈ xs.take j, p x = false
  | [], _, _, _ => fun _ h => by simp at h
  | x :: xs, k, j, e => by
    by_cases hp : p x = true
    · rw [idxF, if_pos hp] at e
      have : j = 0 := by omega
      subst this
      intro y hy; simp at hy
    · have hp' : p x = false := by simpa using hp
      rw [idxF, if_neg hp] at e
      cases j with
      | zero => intro y hy; simp at hy
      | succ j =>
        intro y hy
        rw [List.take_succ_cons] at hy
        rcases List.mem_cons.1 hy with rfl | hy
        · exact hp'
        · exact idxF_first p xs (k + 1) j (by rw [e]; congr 1; omega) y hy

def VerQ (q : Q4) : Prop := ∃ (a b : Int) (s : Bool) (t : Int), q = ⟨.int .i64 a, .int .i64 b, .bool s, .int .i64 t⟩
def RecQ (q : Q4) : Prop := ∃ (a b t : Int) (A : Option Addr) (m c : Nat), q = ⟨.int .i64 a, .int .i64 b, .int .i64 t, .slice A m c⟩
set_option maxHeartbeats 400000 in
theorem IndexFunc_qv (g n cap : Nat) (row : List Q4) (p : Q4 → Bool) (fn : FuncId) (cp : Array Value) (w : World) (hr : RowQ w g 74 row) (hn : n ≤ row.length) (hl : n ≤ 1048576)
    (hfn : ∀ (args : Array Value) (W : World), Sem.run Tryz.prog (callFunc fn args) W = .ok (.enter fn args) W)
    (hf : ∀ (W : World) (q : Q4), q ∈ row.take n → Kp g w W → Calls Tryz.prog fn (#[.agg #[q.a, q.b, q.c, q.d]] ++ cp) W fun e W2 => e = .returned (.bool (p q)) ∧ Ext W W2) :
    Calls Tryz.prog 103 #[.slice (some ⟨g, 0, none⟩) n cap, .func (.func fn) #[] cp] w fun e w2 => e = .returned (.int .i64 (idxF p 0 (row.take n))) ∧ Ext w w2 := by
  have htl : (row.take n).length = n := by rw [List.length_take]; omega
  have HTL := hid htl
  clear htl
  go_enter Tryz.func103, Tryz.ntmps103
  go_wp2
  go_loopw [8] (fun i wr => ∃ k : Nat, k ≤ n ∧ i = .int .i64 k ∧ (∀ x ∈ (row.take n).take k, p x = false) ∧ Ext w wr) (fun i _ => n - (intOf i).toNat)
  case atStart => exact ⟨0, Nat.zero_le _, rfl, by simp, Ext.refl _⟩
  case round =>
    obtain ⟨k, hk, rfl, hz, hx⟩ := hrel
    have HZ := hid hz
    clear hz
    by_cases hlt : k < n
    · have hkl : k < (row.take n).length := by rw [HTL.out]; exact hlt
      have hkr : k < row.length := by omega
      obtain ⟨c0, c1, c2, c3⟩ := (hr.ext hx).cells hkr
      have HQ := hid (show (row.take n)[k] = row[k] from List.getElem_take)
      go_wp2_with fail
      refine (hf wr row[k] (by rw [← HQ.out]; exact List.getElem_mem hkl) hx.kp).mono ?_
      rintro e w2 ⟨rfl, x2⟩
      by_cases hp : p row[k] = true
      · rw [hp]
        have HP := hid (show p ((row.take n)[k]) = true by rw [HQ.out]; exact hp)
        clear hp
        go_wp2
        go_ret
        exact ⟨ret_int (idxF_at p (row.take n) k hkl HZ.out HP.out).symm, hx.trans x2⟩
      · have hp' : p row[k] = false := by simpa using hp
        have HP := hid (show p ((row.take n)[k]) = false by rw [HQ.out]; exact hp')
        rw [hp']
        clear hp hp'
        go_wp2
        go_roundw
        case rel => exact ⟨k + 1, by omega, by go_num, take_snoc_all _ (row.take n) k hkl HZ.out HP.out, hx.trans x2⟩
        case measure => simp [intOf]; omega
    · go_wp2
      go_ret
      exact ⟨ret_int (idxF_all p (row.take n) k (by rw [HTL.out]; exact hlt) HZ.out).symm, hx⟩

set_option maxHeartbeats 2000000 in
set_option maxRecDepth 20000 in
theorem DeleteFunc_qv (g n : Nat) (row : List Q4) (p : Q4 → Bool) (fn : FuncId) (cp : Array Value) (w : World) (hr : RowQ w g 74 row) (hn : n ≤ row.length) (hl : n ≤ 1048576) (hm : row.length ≤ maxLen) (h1 : ∀ q ∈ row.take n, VerQ q)
    (hfn : ∀ (args : Array Value) (W : World), Sem.run Tryz.prog (callFunc fn args) W = .ok (.enter fn args) W)
    (hf : ∀ (W : World) (q : Q4), q ∈ row.take n → Kp g w W → Calls Tryz.prog fn (#[.agg #[q.a, q.b, q.c, q.d]] ++ cp) W fun e W2 => e = .returned (.bool (p q)) ∧ Ext W W2) :
    Calls Tryz.prog 51 #[.slice (some ⟨g, 0, none⟩) n row.length, .func (.func fn) #[] cp] w fun e w2 => ∃ row2 m, e = .returned (.slice (some ⟨g, 0, none⟩) m row.length) ∧ RowQ w2 g 74 row2 ∧ row2.length = row.length ∧
      m = ((row.take n).filter fun q => !p q).length ∧ m ≤ n ∧ row2.take m = (row.take n).filter (fun q => !p q) ∧ Kp g w w2 ∧ ∀ w0 : World, w0.heap.size ≤ g → Ext w0 w → Ext w0 w2 := by
  unfold maxLen at hm
  obtain ⟨cap, hcap⟩ : ∃ cap, cap = row.length := ⟨_, rfl⟩
  rw [← hcap] at hm ⊢
  have hnc : n ≤ cap := by omega
  have HCAP := hid hcap
  have HR := hid hr
  have HN := hid hn
  have hi := idxF_ltq p (row.take n) 0
  obtain ⟨ix, hix⟩ : ∃ ix, ix = idxF p 0 (row.take n) := ⟨_, rfl⟩
  have HIX := hid hix
  have HI := hid hi
  have HIF := hid (IndexFunc_qv g n cap row p fn cp w hr hn hl hfn hf)
  have HHF := hid hf
  clear hcap hr hn hi hix hf
  go_enter Tryz.func51, Tryz.ntmps51
  go_wp2_with fail
  refine HIF.out.mono ?_
  rintro e w1 ⟨rfl, x1⟩
  rw [← HIX.out]
  by_cases hneg : ix = -1
  · have hno : ∀ q ∈ row.take n, p q = false := by
      rcases HI.out with ⟨_, h⟩ | ⟨j, _, h, _⟩
      · exact h
      · rw [← HIX.out] at h; omega
    have hfil : (row.take n).filter (fun q => !p q) = row.take n := List.filter_eq_self.2 fun q hq => by rw [hno q hq]; rfl
    have HF := hid hfil
    subst hneg
    clear hno hfil
    go_wp2
    go_ret
    refine ⟨row, n, rfl, HR.out.ext x1, HCAP.out.symm, ?_, Nat.le_refl _, HF.out.symm, x1.kp, fun w0 _ hx => hx.trans x1⟩
    have := HN.out
    rw [HF.out, List.length_take]; omega
  · obtain ⟨i0, hi0, hix2, hex⟩ : ∃ i0, i0 < n ∧ ix = (i0 : Int) ∧ (∀ q ∈ (row.take n).take i0, p q = false) ∧ ∃ h : i0 < (row.take n).length, p (row.take n)[i0] = true := by
      have hfst := idxF_first p (row.take n) 0
      rcases HI.out with ⟨h, _⟩ | ⟨j, hj, h, hj2, hp⟩
      · exact absurd (HIX.out.trans h) hneg
      · rw [List.length_take] at hj
        exact ⟨j, by omega, by rw [HIX.out, h]; simp, hfst j (by rw [h]), hj2, hp⟩
    subst hix2
    have HEX := hid hex
    have hne1 : ((i0 : Int) == -1) = false := by rw [beq_eq_false_iff_ne]; exact hneg
    clear hex hneg
    have htl : (row.take n).length = n := by rw [List.length_take]; have := HN.out; omega
    have HTL := hid htl
    clear htl
    go_wp2_with fail
    go_loopw [5, 6] (fun si sj wr => ∃ (i j : Nat) (row2 : List Q4), si = .int .i64 i ∧ sj = .int .i64 j ∧ i < j ∧ j ≤ n ∧ RowQ wr g 74 row2 ∧ row2.length = cap ∧ row2.take i = ((row.take n).take j).filter (fun q => !p q) ∧ i = (((row.take n).take j).filter (fun q => !p q)).length ∧ (∀ k, j ≤ k → k < n → row2[k]? = row[k]?) ∧ Kp g w wr ∧ ∀ w0 : World, w0.heap.size ≤ g → Ext w0 w → Ext w0 wr) (fun _ sj _ => n - (intOf sj).toNat)
    case atStart =>
      have h2 : ((row.take n).take (i0 + 1)).filter (fun q => !p q) = (row.take n).take i0 := by
        obtain ⟨h3, h4, h5⟩ := HEX.out
        rw [List.take_succ_eq_append_getElem h4, List.filter_append, List.filter_eq_self.2 (fun q hq => by rw [h3 q hq]; rfl), List.filter_cons, h5]
        simp only [Bool.not_true, Bool.false_eq_true, if_false, List.filter_nil, List.append_nil]
      have h6 := HTL.out
      refine ⟨i0, i0 + 1, row, rfl, by go_num, by omega, by omega, HR.out.ext x1, HCAP.out.symm, ?_, ?_, fun _ _ _ => rfl, x1.kp, fun w0 _ hx => hx.trans x1⟩
      · rw [h2, List.take_take, Nat.min_eq_left (by omega)]
      · rw [h2, List.length_take, h6]; omega
    case round =>
      obtain ⟨i, j, row2, rfl, rfl, hij, hj, hR, hrl, htk, hil, hsame, hkp, hx⟩ := hrel
      have HR2 := hid hR
      have HTK := hid (And.intro htk hil)
      have HS := hid hsame
      have HRL := hid hrl
      have HX := hid hx
      clear htk hil hsame hx hrl
      by_cases hlt : j < n
      · have hjr : j < row2.length := by have := HRL.out; omega
        have hjr2 : j < row.length := by have := HN.out; omega
        have hjt : j < (row.take n).length := by rw [HTL.out]; exact hlt
        have hq0 : row2[j] = row[j] := by
          have := HS.out j (Nat.le_refl _) hlt
          rw [List.getElem?_eq_getElem hjr, List.getElem?_eq_getElem hjr2] at this
          exact Option.some.inj this
        obtain ⟨c0, c1, c2, c3⟩ := hR.cells hjr
        rw [hq0] at c0 c1 c2 c3
        have hmem : row[j] ∈ row.take n := by
          have e : (row.take n)[j] = row[j] := List.getElem_take
          rw [← e]; exact List.getElem_mem hjt
        have hstep : ((row.take n).take (j + 1)).filter (fun q => !p q) = ((row.take n).take j).filter (fun q => !p q) ++ (if p row[j] = true then [] else [row[j]]) := by
          have e : (row.take n)[j] = row[j] := List.getElem_take
          rw [List.take_succ_eq_append_getElem hjt, List.filter_append, e]
          congr 1
          by_cases hp : p row[j] = true
          · simp [hp]
          · simp [hp]
        obtain ⟨q, hq⟩ : ∃ q, q = row[j] := ⟨_, rfl⟩
        rw [← hq] at c0 c1 c2 c3 hmem hstep
        have HQ := hid hq
        have HST := hid hstep
        have HM := hid hmem
        clear hq hmem hstep hq0 hR
        obtain ⟨va, vb, vs, vt, rfl⟩ := h1 q HM.out
        dsimp only at c0 c1 c2 c3
        have xb : Ext wr (wr.alloc (.cells #[.int .i64 va, .int .i64 vb, .bool vs, .int .i64 vt] 74)) := (Ext.refl wr).alloc _
        have HCALL := hid (HHF.out (wr.alloc (.cells #[.int .i64 va, .int .i64 vb, .bool vs, .int .i64 vt] 74)) _ HM.out (hkp.trans xb.kp))
        dsimp only at HCALL
        go_wp2_with fail
        refine HCALL.out.mono ?_
        rintro e w2 ⟨rfl, x2⟩
        clear c0 c1 c2 c3
        obtain ⟨pq, hpq⟩ : ∃ pq, pq = p ⟨.int .i64 va, .int .i64 vb, .bool vs, .int .i64 vt⟩ := ⟨_, rfl⟩
        rw [← hpq]
        have HPQ := hid hpq
        clear hpq
        cases pq with
        | true =>
          have hs2 : ((row.take n).take (j + 1)).filter (fun q => !p q) = ((row.take n).take j).filter (fun q => !p q) := by rw [HST.out, if_pos HPQ.out.symm, List.append_nil]
          have HS2 := hid hs2
          clear hs2
          go_wp2
          go_roundw
          case rel => exact ⟨i, j + 1, row2, rfl, by go_num, by omega, by omega, HR2.out.ext (xb.trans x2), HRL.out, by rw [HS2.out]; exact HTK.out.1, by rw [HS2.out]; exact HTK.out.2, fun k h8 h9 => HS.out k (by omega) h9, hkp.trans (xb.trans x2).kp, fun w0 h8 h9 => (HX.out w0 h8 h9).trans (xb.trans x2)⟩
          case measure => simp [intOf]; omega
        | false =>
          have hs2 : ((row.take n).take (j + 1)).filter (fun q => !p q) = ((row.take n).take j).filter (fun q => !p q) ++ [⟨.int .i64 va, .int .i64 vb, .bool vs, .int .i64 vt⟩] := by rw [HST.out, if_neg (by rw [← HPQ.out]; simp)]
          have HS2 := hid hs2
          have hir : i < row2.length := by have := HRL.out; omega
          have hR3 := HR2.out.ext (xb.trans x2)
          obtain ⟨d0, d1, d2, d3⟩ := hR3.cells hir
          have hfz := hR3.frozen
          obtain ⟨b0, b1, b2, b3⟩ := (⟨x2.box.1 0, x2.box.1 1, x2.box.1 2, x2.box.1 3⟩ : _ ∧ _ ∧ _ ∧ _)
          have HST4 := hid (hR3.store hir ⟨.int .i64 va, .int .i64 vb, .bool vs, .int .i64 vt⟩)
          have HK4 := hid (fun a b c d => (hkp.trans (xb.trans x2).kp).trans (Kp.store4 g (i * 4) a b c d w2))
          have HX4 := hid (fun (w0 : World) (h8 : w0.heap.size ≤ g) (h9 : Ext w0 w) a b c d => Ext.store4 ((HX.out w0 h8 h9).trans (xb.trans x2)) h8 (i * 4) a b c d)
          dsimp only at HST4
          clear hs2 hR3
          go_wp2
          go_roundw
          case rel =>
            refine ⟨i + 1, j + 1, row2.set i ⟨.int .i64 va, .int .i64 vb, .bool vs, .int .i64 vt⟩, by go_num, by go_num, by omega, by omega, HST4.out, by rw [List.length_set]; exact HRL.out, ?_, ?_, fun k h8 h9 => ?_, HK4.out _ _ _ _, fun w0 h8 h9 => HX4.out w0 h8 h9 _ _ _ _⟩
            · rw [HS2.out, ← HTK.out.1, List.take_succ_eq_append_getElem (by rw [List.length_set]; exact hir), List.getElem_set_self]
              congr 1
              rw [List.take_set_of_le (Nat.le_refl _)]
            · rw [HS2.out, List.length_append, ← HTK.out.2]; rfl
            · rw [List.getElem?_set_ne (by omega)]; exact HS.out k (by omega) h9
          case measure => simp [intOf]; omega
      · obtain rfl : j = n := by omega
        have hlr := HRL.out
        have hzz : (List.replicate (j - i) ([.int .i64 0, .int .i64 0, .bool false, .int .i64 0] : List Value)).flatten = flatQ (List.replicate (j - i) ⟨.int .i64 0, .int .i64 0, .bool false, .int .i64 0⟩) := by
          unfold flatQ
          rw [List.flatMap_def, List.map_replicate]; rfl
        have hcl2 : ∀ ty, (Builtin.clear_ #[32] ty #[.slice (some ⟨g, i * 4, none⟩) (j - i) (cap - i)]).run Tryz.prog wr = .ok (.tuple #[]) (wr.setCells g (i * 4) (List.replicate (j - i) ([.int .i64 0, .int .i64 0, .bool false, .int .i64 0] : List Value)).flatten) := fun ty => by
          refine run_clear_many wr _ 74 ty (.agg #[.int .i64 0, .int .i64 0, .bool false, .int .i64 0]) [.int .i64 0, .int .i64 0, .bool false, .int .i64 0] Tryz.underlying32 (fun w => by kernel_rfl) rfl (by simp [Value.oneCell']) g (i * 4) (j - i) _ (by omega) (fun j2 hj2 => ?_) (fun j2 hj2 => hR.frozen _)
          have h3 : ([.int .i64 0, .int .i64 0, .bool false, .int .i64 0] : List Value).length = 4 := rfl
          rw [h3] at hj2
          rw [cell_of_row wr g _ _ _ (0, 0) hR, List.getElem?_toArray, List.getElem?_eq_getElem (by rw [flatQ_len]; omega)]
          rfl
        have hR4 := hR.setCells (i := i) (List.replicate (j - i) ⟨.int .i64 0, .int .i64 0, .bool false, .int .i64 0⟩) (by rw [List.length_replicate]; omega)
        rw [← hzz] at hR4
        have HR4 := hid hR4
        have u1 : ¬ cap = i := by omega
        have u2 : i ≤ cap := by omega
        have u3 : (i : Int) ≤ (j : Int) := by omega
        have u4 : i ≤ j := by omega
        clear hR hR4 hzz hlr
        go_wp2
        go_ret
        have htj : (row.take j).take j = row.take j := List.take_of_length_le (by rw [HTL.out]; exact Nat.le_refl _)
        have h7 := HTK.out
        rw [htj] at h7
        refine ⟨_, i, rfl, HR4.out, ?_, h7.2, by omega, ?_, hkp.trans (Kp.setCells g _ _ _), fun w0 h8 h9 => Ext.setCells h8 _ _ (HX.out w0 h8 h9)⟩
        · have := HRL.out
          simp only [List.length_append, List.length_take, List.length_drop, List.length_replicate]; omega
        · have := HRL.out
          rw [List.take_append_of_le_length (by rw [List.length_take]; omega), List.take_take, Nat.min_self]; exact h7.1

set_option maxHeartbeats 400000 in
theorem DeleteFunc_nilv (fn : FuncId) (cp : Array Value) (w : World) :
    Calls Tryz.prog 51 #[.slice none 0 0, .func (.func fn) #[] cp] w fun e w2 => e = .returned (.slice none 0 0) ∧ Ext w w2 := by
  go_enter Tryz.func51, Tryz.ntmps51
  go_wp2_with fail
  refine (show Calls Tryz.prog 103 #[.slice none 0 0, .func (.func fn) #[] cp] w fun e w2 => e = .returned (.int .i64 (-1)) ∧ Ext w w2 from ?_).mono ?_
  · go_enter Tryz.func103, Tryz.ntmps103
    go_wp2
    go_loopw [8] (fun i wr => i = .int .i64 0 ∧ Ext w wr) (fun _ _ => 0)
    case atStart => exact ⟨rfl, Ext.refl _⟩
    case round =>
      obtain ⟨rfl, hx⟩ := hrel
      go_wp2
      go_ret
      exact ⟨rfl, hx⟩
  rintro e w2 ⟨rfl, x2⟩
  go_wp2
  go_ret
  exact ⟨rfl, x2⟩

end Go.Proofs.YtfcbapaojoecgaaGreat

namespace Go.Proofs.YtfcbapaojoecgaaGreat
open Go.RowKit

theorem wpList_apps {P : Program} {ops : Array Oper} {rest : List Oper} {o : Oper} {a : Act} {w : World} {Q : Exit → Act → World → Prop} {t e : TypeId} {bytes : Nat} (E : ElemT P t e strO.n bytes) (hby : bytes ≤ 128)
    (hgd : o.guard = none) (s x : Operand) (ho : o.op = .call { callee := .builtin .append, args := #[s, x], argTypes := #[t, t] })
    {base : Nat} {v : Value} {xs : List ByteArray} (hb : Bld strO w base e v xs []) (hs : a.eval s = v) {A : Option Addr} {n k : Nat} (hx : a.eval x = .slice A n k) {ys : List ByteArray} (hy : Sl strR w (.slice A n k) ys)
    (hbytes : xs.length + ys.length ≤ 1099511627776) (hbase : base ≤ w.heap.size)
    (h : ∀ v' w', Bld strO w' base e v' (xs ++ ys) [] → (∀ w0 : World, w0.heap.size ≤ base → Ext w0 w → Ext w0 w') → wpList P ops Q rest (a.put o.dst v') w') :
    wpList P ops Q (o :: rest) a w := by
  obtain ⟨ht, i, z, hi, hz, hsize, hby2, hzs⟩ := E
  have hn : n = ys.length := hy.cap_.1
  cases A with
  | none =>
    have h0 : ys = [] := by
      cases ys with
      | nil => rfl
      | cons y ys =>
        obtain ⟨_, _, _, e, _⟩ := hy.at_ (show 0 < (y :: ys).length by simp)
        cases e
    subst h0
    have hn0 : n = 0 := hn
    subst hn0
    obtain ⟨cs, b1, b2⟩ := hb
    refine wpList_plain hgd fun K hK => ?_
    have hr : (Builtin.append_ #[t, t] o.type #[v, .slice none 0 k]).run P w = .ok v w := by
      rcases b1.2 with ⟨rfl, _⟩ | ⟨g, cap, cur, rfl, _, _, hnc, _⟩
      · simp [Builtin.append_, run_underlying ht, sizeOf, typeInfo, hi, Builtin.lenOf, Builtin.firstCells]
      · simp [Builtin.append_, run_underlying ht, sizeOf, typeInfo, hi, Builtin.lenOf, Builtin.firstCells, hnc, storeCells]
    unfold Oper.wp execOp
    simp only [ho, resolve, invoke, builtin, Sem.run_bind, Sem.run_pure, Result.andThen_ok, List.map_toArray, List.map_cons, List.map_nil, hs, hx, hr]
    exact hK _ _ (h v w (by rw [List.append_nil]; exact ⟨cs, b1, b2⟩) fun _ _ hx => hx)
  | some ad =>
    have hc := hy.strs_some
    have hml := hy.strlen
    have hl := hb.lt
    obtain ⟨cs, b1, b2, b3, b4, b5⟩ := hb
    refine wpList_append_own_at w hgd s x t ho base e i z strO.n bytes ht hi hz hsize hby2 hzs (by decide) v xs.length cs hs b1 ad n k (ys.map Value.string) hx (by rw [List.length_map, hn]; exact (Nat.mul_one _).symm) hc (fun u hu => by
      obtain ⟨y, _, rfl⟩ := List.mem_map.1 hu; rfl) (by unfold maxLen; omega)
      (Nat.le_trans (Nat.mul_le_mul (show xs.length + n ≤ 1099511627776 by omega) hby) (by decide)) hbase ?_
    intro v' w' hown hgr _ hat
    refine h v' w' ⟨cs ++ ys.map Value.string, by rw [List.length_append, ← hn]; exact hown, ?_, fun _ _ hm => (by cases hm), List.nodup_nil, fun _ hm => by cases hm⟩ fun w0 h0 hx0 => hx0.grown hgr fun g hg => Nat.le_trans h0 (hl.2 g hg).2
    have := OwnCells.append (b2.keep (w2 := w') fun b hb => by cases hb) (strs_cells w' _ hml)
    simpa using this

set_option maxHeartbeats 400000 in
set_option maxRecDepth 20000 in
theorem slices_Clone_sB (v : Value) (xs : List ByteArray) (w : World) (h : Sl strR w v xs) (hl : xs.length ≤ 1048576) :
    Calls Tryz.prog 140 #[v] w fun e w2 => ∃ v2, e = .returned v2 ∧ Bld strO w2 w.heap.size 9 v2 xs [] ∧ Ext w w2 := by
  obtain ⟨A, cap, rfl, hm⟩ := h.form
  have q := fun (W : World) (a : Option Addr) (n c n' c' : Nat) => Lib.run_eql_slice_nil (P := Tryz.prog) W 70 9 a n c n' c' Tryz.underlying70
  cases A with
  | none =>
    have h0 : xs = [] := by
      cases xs with
      | nil => rfl
      | cons y ys =>
        obtain ⟨_, _, _, e, _⟩ := h.at_ (show 0 < (y :: ys).length by simp)
        cases e
    subst h0
    go_enter Tryz.func140, Tryz.ntmps140
    go_wp2
    go_ret
    exact ⟨_, rfl, Bld.nil _ _ _, Ext.refl _⟩
  | some ad =>
    go_enter Tryz.func140, Tryz.ntmps140
    go_wp2_with (at_builtin; refine wpList_apps elemStrC (by decide) rfl _ _ rfl (Bld.lit w (Nat.le_refl _) _) rfl rfl (h.mono ((Ext.refl _).alloc _)) (by simp; omega) (by simp) ?_; intro v9 w9 hB9 hE9)
    go_ret
    exact ⟨_, rfl, by simpa using hB9, hE9 w (Nat.le_refl _) ((Ext.refl _).alloc _)⟩
end Go.Proofs.YtfcbapaojoecgaaGreat

namespace Go.Proofs.YtfcbapaojoecgaaGreat
open Go.RowKit

def cmpO (x y : Record) : Int := firstNZ [cmpI x.source y.source, cmpI x.key y.key]
def cmpR (x y : Record) : Int := firstNZ [cmpO x y, cmpI x.version y.version, cmpSL x.fields y.fields]
theorem firstNZ_cons (a : Int) (l : List Int) : firstNZ (a :: l) = if a = 0 then firstNZ l else a := by
  by_cases h : a = 0
  · rw [firstNZ, if_neg (by simpa using h), if_pos h]
  · rw [firstNZ, if_pos h, if_neg h]
theorem cmpO_zero {x y : Record} : cmpO x y = 0 ↔ x.source = y.source ∧ x.key = y.key := by
  unfold cmpO
  rw [firstNZ_cons, firstNZ_cons, firstNZ]
  rw [← cmpI_zero (a := x.source), ← cmpI_zero (a := x.key)]
  by_cases h1 : cmpI x.source y.source = 0
  · rw [if_pos h1]
    by_cases h2 : cmpI x.key y.key = 0
    · rw [if_pos h2]; exact ⟨fun _ => ⟨h1, h2⟩, fun _ => rfl⟩
    · rw [if_neg h2]; exact ⟨fun e => absurd e h2, fun e => absurd e.2 h2⟩
  · rw [if_neg h1]; exact ⟨fun e => absurd e h1, fun e => absurd e.1 h1⟩
theorem cmpR_zero {x y : Record} : cmpR x y = 0 ↔ x = y := by
  rw [Record.ext_iff4]
  unfold cmpR
  rw [firstNZ_cons, firstNZ_cons, firstNZ_cons, firstNZ]
  rw [← cmpI_zero (a := x.version), ← cmpSL_zero (xs := x.fields)]
  have h := cmpO_zero (x := x) (y := y)
  by_cases h1 : cmpO x y = 0
  · rw [if_pos h1]
    obtain ⟨h2, h3⟩ := h.1 h1
    by_cases h4 : cmpI x.version y.version = 0
    · rw [if_pos h4]
      by_cases h5 : cmpSL x.fields y.fields = 0
      · rw [if_pos h5]; exact ⟨fun _ => ⟨h2, h3, h4, h5⟩, fun _ => rfl⟩
      · rw [if_neg h5]; exact ⟨fun e => absurd e h5, fun e => absurd e.2.2.2 h5⟩
    · rw [if_neg h4]; exact ⟨fun e => absurd e h4, fun e => absurd e.2.2.1 h4⟩
  · rw [if_neg h1]; exact ⟨fun e => absurd e h1, fun e => absurd (h.2 ⟨e.1, e.2.1⟩) h1⟩
theorem firstNZ_bd : ∀ l : List Int, (∀ x ∈ l, I64 x) → I64 (firstNZ l)
  | [], _ => by simp [firstNZ, I64]
  | x :: l, h => by
    rw [firstNZ]; split
    · exact h x (List.mem_cons_self ..)
    · exact firstNZ_bd l fun y hy => h y (List.mem_cons_of_mem _ hy)
theorem cmpO_64 (x y : Record) : I64 (cmpO x y) := firstNZ_bd _ (by simp [cmpI_64])
theorem cmpR_64 (x y : Record) : I64 (cmpR x y) := firstNZ_bd _ (by simp [cmpI_64, cmpO_64, cmpSL_64])

set_option maxHeartbeats 400000 in
set_option maxRecDepth 20000 in
theorem impl_compareOrigins (v u : Value) (x y : Record) (w : World) (h : RecAt w v x) (k : RecAt w u y) :
    Calls Tryz.prog 102 #[v, u] w fun e w2 => e = .returned (.int .i64 (cmpO x y)) ∧ Ext w w2 := by
  obtain ⟨f, rfl, hok, hs⟩ := h
  obtain ⟨g, rfl, hok2, hs2⟩ := k
  go_enter Tryz.func102, Tryz.ntmps102
  go_wp2
  refine wp_region_still_tail 10 (by kernel_rfl) (by kernel_rfl) ?_
  simp only [List.take_succ_cons, List.take_zero, List.drop_succ_cons, List.drop_zero]
  change wpStill _ _ (World.drew _) _ _ _
  repeat (first | still_step | still_call (cmp_Compare _ _ _))
  refine wpStill_nil ?_
  change wpList _ _ _ _ _ (World.drew _)
  go_wp2_with fail
  refine (cmp_Or _ [cmpI x.source y.source, cmpI x.key y.key] _ ?_).mono ?_
  · exact (Sl.new_ints _ [cmpI x.source y.source, cmpI x.key y.key] _ _ _ (by simp) (by simp) (by simp [cmpI_64]) (by simp [maxLen])).mono (Ext.refl _).drew
  rintro e w2 ⟨rfl, rfl⟩
  go_wp2
  go_ret
  exact ⟨ret_int rfl, (by repeat (first | with_reducible exact Ext.refl _ | with_reducible assumption | with_reducible refine Ext.drew ?_ | with_reducible refine Ext.alloc ?_ _ | with_reducible refine Ext.trans ?_ (by with_reducible assumption)))⟩

set_option maxHeartbeats 400000 in
set_option maxRecDepth 20000 in
theorem impl_CompareRecords (v u : Value) (x y : Record) (w : World) (h : RecAt w v x) (k : RecAt w u y) :
    Calls Tryz.prog 101 #[v, u] w fun e w2 => e = .returned (.int .i64 (cmpR x y)) ∧ Ext w w2 := by
  obtain ⟨f, rfl, hok, hs⟩ := h
  obtain ⟨g, rfl, hok2, hs2⟩ := k
  have hS : ∀ W, Ext ((w.alloc (.cells #[.int .i64 x.source, .int .i64 x.key, .int .i64 x.version, f] 72)).alloc (.cells #[.int .i64 y.source, .int .i64 y.key, .int .i64 y.version, g] 72)) W →
      (∀ i, W.cell? ⟨w.heap.size, i, none⟩ = #[.int .i64 x.source, .int .i64 x.key, .int .i64 x.version, f][i]?) ∧ (∀ i, W.cell? ⟨w.heap.size + 1, i, none⟩ = #[.int .i64 y.source, .int .i64 y.key, .int .i64 y.version, g][i]?) :=
    fun W z => ⟨(((Ext.refl _).alloc _).trans z).box.1, z.box1.1⟩
  have HK := hid hS
  clear hS
  go_enter Tryz.func101, Tryz.ntmps101
  go_wp2_with fail
  go_region_held3 (fun w' => (∀ i, w'.cell? ⟨w.heap.size, i, none⟩ = #[.int .i64 x.source, .int .i64 x.key, .int .i64 x.version, f][i]?) ∧ (∀ i, w'.cell? ⟨w.heap.size + 1, i, none⟩ = #[.int .i64 y.source, .int .i64 y.key, .int .i64 y.version, g][i]?))
    (exact HK.out _ (by repeat (first | with_reducible exact Ext.refl _ | with_reducible assumption | with_reducible refine Ext.drew ?_ | with_reducible refine Ext.alloc ?_ _ | with_reducible refine Ext.trans ?_ (by with_reducible assumption))))
    (first | (go_at_call 102; refine (impl_compareOrigins _ _ x y _ ?ha ?hb).mono ?_; (case ha => exact ⟨_, rfl, hok, hs.mono (by repeat (first | with_reducible exact Ext.refl _ | with_reducible assumption | with_reducible refine Ext.drew ?_ | with_reducible refine Ext.alloc ?_ _ | with_reducible refine Ext.trans ?_ (by with_reducible assumption)))⟩); (case hb => exact ⟨_, rfl, hok2, hs2.mono (by repeat (first | with_reducible exact Ext.refl _ | with_reducible assumption | with_reducible refine Ext.drew ?_ | with_reducible refine Ext.alloc ?_ _ | with_reducible refine Ext.trans ?_ (by with_reducible assumption)))⟩); rintro e w5 ⟨rfl, x5⟩) | (go_at_call 107; refine (cmp_Compare _ _ _).mono ?_; rintro e w6 ⟨rfl, rfl⟩) | (go_at_call 141; refine (slices_Compare_s _ _ x.fields y.fields _ ?hc ?hd).mono ?_; (case hc => exact hs.mono (by repeat (first | with_reducible exact Ext.refl _ | with_reducible assumption | with_reducible refine Ext.drew ?_ | with_reducible refine Ext.alloc ?_ _ | with_reducible refine Ext.trans ?_ (by with_reducible assumption)))); (case hd => exact hs2.mono (by repeat (first | with_reducible exact Ext.refl _ | with_reducible assumption | with_reducible refine Ext.drew ?_ | with_reducible refine Ext.alloc ?_ _ | with_reducible refine Ext.trans ?_ (by with_reducible assumption)))); rintro e w7 ⟨rfl, rfl⟩) | (go_at_call 106; refine (cmp_Or _ [cmpO x y, cmpI x.version y.version, cmpSL x.fields y.fields] _ ?he).mono ?_; (case he => exact (Sl.new_ints _ [cmpO x y, cmpI x.version y.version, cmpSL x.fields y.fields] _ _ _ (by simp) (by simp) (by simp [cmpI_64, cmpO_64, cmpSL_64]) (by simp [maxLen]))); rintro e w8 ⟨rfl, rfl⟩))
  go_wp2
  go_ret
  exact ⟨ret_int rfl, (by repeat (first | with_reducible exact Ext.refl _ | with_reducible assumption | with_reducible refine Ext.drew ?_ | with_reducible refine Ext.alloc ?_ _ | with_reducible refine Ext.trans ?_ (by with_reducible assumption)))⟩

set_option maxHeartbeats 400000 in
theorem impl_equalRecords (v u : Value) (x y : Record) (w : World) (h : RecAt w v x) (k : RecAt w u y) :
    Calls Tryz.prog 68 #[v, u] w fun e w2 => e = .returned (.bool (eqB x y)) ∧ Ext w w2 := by
  obtain ⟨f, rfl, hok, hs⟩ := h
  obtain ⟨g, rfl, hok2, hs2⟩ := k
  have h64 := (cmpR_64 x y).out
  go_enter Tryz.func68, Tryz.ntmps68
  go_wp2_with fail
  refine (impl_CompareRecords _ _ x y _ ⟨_, rfl, hok, hs.mono (by repeat (first | with_reducible exact Ext.refl _ | with_reducible assumption | with_reducible refine Ext.drew ?_ | with_reducible refine Ext.alloc ?_ _ | (refine Ext.setCell ?_ (by simp) _) | with_reducible refine Ext.trans ?_ (by with_reducible assumption)))⟩ ⟨_, rfl, hok2, hs2.mono (by repeat (first | with_reducible exact Ext.refl _ | with_reducible assumption | with_reducible refine Ext.drew ?_ | with_reducible refine Ext.alloc ?_ _ | (refine Ext.setCell ?_ (by simp) _) | with_reducible refine Ext.trans ?_ (by with_reducible assumption)))⟩).mono ?_
  rintro e w2 ⟨rfl, x2⟩
  by_cases h0 : cmpR x y = 0
  · have h1 : (cmpR x y == 0) = true := by simp [h0]
    have H0 := hid h0
    clear h0
    go_wp2
    go_ret
    exact ⟨ret_bool (eqB_true (cmpR_zero.1 H0.out)).symm, (by repeat (first | with_reducible exact Ext.refl _ | with_reducible assumption | with_reducible refine Ext.drew ?_ | with_reducible refine Ext.alloc ?_ _ | (refine Ext.setCell ?_ (by simp) _) | with_reducible refine Ext.trans ?_ (by with_reducible assumption)))⟩
  · have h1 : (cmpR x y == 0) = false := by simp [h0]
    have H0 := hid h0
    clear h0
    go_wp2
    go_ret
    exact ⟨ret_bool (eqB_false fun e => H0.out (cmpR_zero.2 e)).symm, (by repeat (first | with_reducible exact Ext.refl _ | with_reducible assumption | with_reducible refine Ext.drew ?_ | with_reducible refine Ext.alloc ?_ _ | (refine Ext.setCell ?_ (by simp) _) | with_reducible refine Ext.trans ?_ (by with_reducible assumption)))⟩

/-- what the reference's walk knows at its loop -/
def cmpK (x y : Record) (K : Int) (j : Nat) : Prop := I64 K ∧ (K = 0 → firstNZ [cmpI x.source y.source, cmpI x.key y.key, cmpI x.version y.version] = 0 ∧ x.fields.take j = y.fields.take j) ∧ (K ≠ 0 → cmpR x y = K)
theorem fz_zero {a : Int} {l : List Int} (h : a = 0) : firstNZ (a :: l) = firstNZ l := by rw [firstNZ_cons, if_pos h]
theorem fz_pos {a : Int} {l : List Int} (h : ¬ a = 0) : firstNZ (a :: l) = a := by rw [firstNZ_cons, if_neg h]
theorem fz_one (d : Int) : firstNZ [d] = d := by
  by_cases h : d = 0
  · rw [fz_zero h]; exact h.symm
  · exact fz_pos h
theorem fz_join (a b : Int) (l : List Int) : firstNZ (firstNZ [a, b] :: l) = firstNZ (a :: b :: l) := by
  by_cases ha : a = 0
  · rw [fz_zero ha (l := [b]), fz_zero ha (l := b :: l), fz_one]
  · rw [fz_pos ha (l := [b]), fz_pos ha (l := b :: l), fz_pos ha]
theorem fz_all : ∀ {l : List Int}, firstNZ l = 0 → ∀ x ∈ l, x = 0
  | [], _, x, hx => by cases hx
  | a :: l, h, x, hx => by
    by_cases ha : a = 0
    · rw [fz_zero ha] at h
      rcases List.mem_cons.1 hx with rfl | hx
      · exact ha
      · exact fz_all h x hx
    · rw [fz_pos ha] at h; exact absurd h ha
theorem cmpR_heads (x y : Record) : cmpR x y = firstNZ [cmpI x.source y.source, cmpI x.key y.key, cmpI x.version y.version, cmpSL x.fields y.fields] := by
  unfold cmpR cmpO
  exact fz_join _ _ _
theorem cmpR_tail {x y : Record} (h : firstNZ [cmpI x.source y.source, cmpI x.key y.key, cmpI x.version y.version] = 0) : cmpR x y = cmpSL x.fields y.fields := by
  rw [cmpR_heads]
  have := firstNZ_append [cmpI x.source y.source, cmpI x.key y.key, cmpI x.version y.version] [cmpSL x.fields y.fields] (fz_all h)
  rw [fz_one] at this
  exact this
theorem cmpK_1 {x y : Record} (h : ¬ cmpI x.source y.source = 0) : cmpK x y (cmpI x.source y.source) 0 := ⟨cmpI_64 _ _, fun e => absurd e h, fun _ => by rw [cmpR_heads, firstNZ_cons, if_neg h]⟩
theorem cmpK_2 {x y : Record} (h : cmpI x.source y.source = 0) (h2 : ¬ cmpI x.key y.key = 0) : cmpK x y (cmpI x.key y.key) 0 := ⟨cmpI_64 _ _, fun e => absurd e h2, fun _ => by rw [cmpR_heads, firstNZ_cons, if_pos h, firstNZ_cons, if_neg h2]⟩
theorem cmpK_3 {x y : Record} (h : cmpI x.source y.source = 0) (h2 : cmpI x.key y.key = 0) : cmpK x y (cmpI x.version y.version) 0 := by
  refine ⟨cmpI_64 _ _, fun e => ⟨?_, rfl⟩, fun e => ?_⟩
  · rw [fz_zero h, fz_zero h2, fz_zero e]; rfl
  · rw [cmpR_heads, firstNZ_cons, if_pos h, firstNZ_cons, if_pos h2, firstNZ_cons, if_neg e]

set_option maxHeartbeats 400000 in
set_option maxRecDepth 100000 in
theorem spec_CompareRecords (v u : Value) (x y : Record) (w : World) (h : RecAt w v x) (k : RecAt w u y) :
    Calls Tryz.prog 132 #[v, u] w fun e w2 => e = .returned (.int .i64 (cmpR x y)) ∧ Ext w w2 := by
  obtain ⟨f, rfl, hok, hs⟩ := h
  obtain ⟨g, rfl, hok2, hs2⟩ := k
  clear hok hok2
  obtain ⟨A, cap, rfl, hm⟩ := hs.form
  obtain ⟨B, cap2, rfl, hm2⟩ := hs2.form
  have hS : ∀ W, Ext ((w.alloc (.cells #[.int .i64 x.source, .int .i64 x.key, .int .i64 x.version, .slice A x.fields.length cap] 72)).alloc (.cells #[.int .i64 y.source, .int .i64 y.key, .int .i64 y.version, .slice B y.fields.length cap2] 72)) W →
      W.cell? ⟨w.heap.size, 3, none⟩ = some (.slice A x.fields.length cap) ∧ W.cell? ⟨w.heap.size + 1, 3, none⟩ = some (.slice B y.fields.length cap2) :=
    fun W z => ⟨(((Ext.refl _).alloc _).trans z).box.1 3, z.box1.1 3⟩
  have HK := hid hS
  clear hS
  have n1 : (∃ K0, K0 = cmpI x.source y.source ∧ I64 K0) := ⟨_, rfl, cmpI_64 _ _⟩
  have n2 : (∃ K0, K0 = cmpI x.key y.key ∧ I64 K0) := ⟨_, rfl, cmpI_64 _ _⟩
  have n3 : (∃ K0, K0 = cmpI x.version y.version ∧ I64 K0) := ⟨_, rfl, cmpI_64 _ _⟩
  obtain ⟨c1, e1, i1⟩ := n1
  obtain ⟨c2, e2, i2⟩ := n2
  obtain ⟨c3, e3, i3⟩ := n3
  have E1 := hid e1
  have E2 := hid e2
  have E3 := hid e3
  clear e1 e2 e3
  have i1' := i1.out
  have i2' := i2.out
  have i3' := i3.out
  have start : ∃ K, (K = c1 ∧ ¬ c1 = 0 ∨ c1 = 0 ∧ K = c2 ∧ ¬ c2 = 0 ∨ c1 = 0 ∧ c2 = 0 ∧ K = c3) ∧ cmpK x y K 0 := by
    by_cases h1 : c1 = 0
    · by_cases h2 : c2 = 0
      · exact ⟨c3, .inr (.inr ⟨h1, h2, rfl⟩), E3.out ▸ cmpK_3 (E1.out ▸ h1) (E2.out ▸ h2)⟩
      · exact ⟨c2, .inr (.inl ⟨h1, rfl, h2⟩), E2.out ▸ cmpK_2 (E1.out ▸ h1) (E2.out ▸ h2)⟩
    · exact ⟨c1, .inl ⟨rfl, h1⟩, E1.out ▸ cmpK_1 (E1.out ▸ h1)⟩
  obtain ⟨K0, hway, hK0⟩ := start
  have HK0 := hid hK0
  clear hK0
  have part : ((c1 == 0) = false ∧ K0 = c1) ∨ ((c1 == 0) = true ∧ (c2 == 0) = false ∧ c1 = 0 ∧ K0 = c2) ∨ ((c1 == 0) = true ∧ (c2 == 0) = true ∧ c1 = 0 ∧ c2 = 0 ∧ K0 = c3) := by
    rcases hway with ⟨h1, h2⟩ | ⟨h1, h2, h3⟩ | ⟨h1, h2, h3⟩
    · exact .inl ⟨by simp [h2], h1⟩
    · exact .inr (.inl ⟨by simp [h1], by simp [h3], h1, h2⟩)
    · exact .inr (.inr ⟨by simp [h1], by simp [h2], h1, h2, h3⟩)
  clear hway
  rcases part with ⟨p1, p2⟩ | ⟨p1, p2, p3, p4⟩ | ⟨p1, p2, p3, p4, p5⟩
  all_goals
    try (have P3 := hid p3; clear p3)
    try (have P4 := hid p4; clear p4)
    go_enter Tryz.func132, Tryz.ntmps132
    go_wp2_with (go_at_call 133; refine (spec_l8Int _ _ _).mono ?_; rintro e w2 ⟨rfl, rfl⟩; first | rw [← E1.out] | rw [← E2.out] | rw [← E3.out])
  all_goals
    go_loopw [5, 6] (fun t i wr => ∃ (K : Int) (j : Nat), j ≤ x.fields.length ∧ j ≤ y.fields.length ∧ i = .int .i64 j ∧ t = .int .i64 K ∧ cmpK x y K j ∧ Ext ((w.alloc (.cells #[.int .i64 x.source, .int .i64 x.key, .int .i64 x.version, .slice A x.fields.length cap] 72)).alloc (.cells #[.int .i64 y.source, .int .i64 y.key, .int .i64 y.version, .slice B y.fields.length cap2] 72)) wr) (fun t i _ => (if intOf t = 0 then 1 else 0) + (x.fields.length - (intOf i).toNat))
  all_goals try (case atStart => exact ⟨_, 0, Nat.zero_le _, Nat.zero_le _, rfl, rfl, by first | exact HK0.out | (subst p2; exact HK0.out) | (rw [← P4.out]; exact HK0.out) | (rw [← p5]; exact HK0.out), Ext.refl _⟩)
  all_goals
    obtain ⟨K, j, hj1, hj2, rfl, rfl, hK, hx⟩ := hrel
    obtain ⟨ca, cb⟩ := HK.out _ hx
    have HKK := hid hK
    have hK64 := hK.1.out
    clear hK
    have xw : Ext w wr := ((((Ext.refl _).alloc _).alloc _)).trans hx
    by_cases hk0 : K = 0
    · subst hk0
      by_cases hlt : j < x.fields.length
      · by_cases hlt2 : j < y.fields.length
        · obtain ⟨b, off, rfl, hI, hc⟩ := (hs.mono xw).str hlt
          obtain ⟨b2, off2, rfl, hI2, hc2⟩ := (hs2.mono xw).str hlt2
          have ha1 : ∀ z : ExtOf wr, z.1.cell? ⟨w.heap.size, 3, none⟩ = _ := fun z => z.2.cell ca
          have ha2 : ∀ z : ExtOf wr, z.1.cell? ⟨w.heap.size + 1, 3, none⟩ = _ := fun z => z.2.cell cb
          have ha3 : ∀ z : ExtOf wr, z.1.cell? ⟨b, off + j, none⟩ = _ := fun z => z.2.cell hc
          have ha4 : ∀ z : ExtOf wr, z.1.cell? ⟨b2, off2 + j, none⟩ = _ := fun z => z.2.cell hc2
          cases hl : Op.bytesLess x.fields[j].toList y.fields[j].toList with
          | true =>
            have HN := hid (cmpS_lt hl)
            go_wp2_with fail
            refine wp_region_ext (by kernel_rfl) (by kernel_rfl) ?_
            repeat (go_big_quiet_step ((fail)))
            refine wpQuiet_nil ?_
            rintro w4 ⟨⟨_, x4⟩, rfl⟩
            have hb1 : ∀ z : ExtOf w4, z.1.cell? ⟨w.heap.size, 3, none⟩ = _ := fun z => (x4.trans z.2).cell ca
            have hb2 : ∀ z : ExtOf w4, z.1.cell? ⟨w.heap.size + 1, 3, none⟩ = _ := fun z => (x4.trans z.2).cell cb
            have hb3 : ∀ z : ExtOf w4, z.1.cell? ⟨b, off + j, none⟩ = _ := fun z => (x4.trans z.2).cell hc
            have hb4 : ∀ z : ExtOf w4, z.1.cell? ⟨b2, off2 + j, none⟩ = _ := fun z => (x4.trans z.2).cell hc2
            go_wp2_with fail
            refine wp_region_ext (by kernel_rfl) (by kernel_rfl) ?_
            repeat (go_big_quiet_step ((fail)))
            refine wpQuiet_nil ?_
            rintro w5 ⟨⟨_, x5⟩, rfl⟩
            go_wp2
            go_roundw
            case rel => exact ⟨-1, j + 1, by omega, by omega, by go_num, rfl, ⟨by simp [I64], fun e => (by omega), fun _ => by rw [cmpR_tail (HKK.out.2.1 rfl).1, cmpSL_at hlt hlt2 (HKK.out.2.1 rfl).2 (by rw [HN.out]; omega), HN.out]⟩, (hx.trans x4).trans x5⟩
            case measure => simp [intOf]; omega
          | false =>
            cases he : (x.fields[j].toList == y.fields[j].toList) with
            | true =>
              have HN := hid (toList_inj he)
              go_wp2_with fail
              refine wp_region_ext (by kernel_rfl) (by kernel_rfl) ?_
              repeat (go_big_quiet_step ((fail)))
              refine wpQuiet_nil ?_
              rintro w4 ⟨⟨_, x4⟩, rfl⟩
              have hb1 : ∀ z : ExtOf w4, z.1.cell? ⟨w.heap.size, 3, none⟩ = _ := fun z => (x4.trans z.2).cell ca
              have hb2 : ∀ z : ExtOf w4, z.1.cell? ⟨w.heap.size + 1, 3, none⟩ = _ := fun z => (x4.trans z.2).cell cb
              have hb3 : ∀ z : ExtOf w4, z.1.cell? ⟨b, off + j, none⟩ = _ := fun z => (x4.trans z.2).cell hc
              have hb4 : ∀ z : ExtOf w4, z.1.cell? ⟨b2, off2 + j, none⟩ = _ := fun z => (x4.trans z.2).cell hc2
              go_wp2_with fail
              refine wp_region_ext (by kernel_rfl) (by kernel_rfl) ?_
              repeat (go_big_quiet_step ((fail)))
              refine wpQuiet_nil ?_
              rintro w5 ⟨⟨_, x5⟩, rfl⟩
              go_wp2
              go_roundw
              case rel => exact ⟨0, j + 1, by omega, by omega, by go_num, rfl, ⟨by simp [I64], fun _ => ⟨(HKK.out.2.1 rfl).1, take_snoc_eq hlt hlt2 HN.out (HKK.out.2.1 rfl).2⟩, fun e => absurd rfl e⟩, (hx.trans x4).trans x5⟩
              case measure => simp [intOf]; omega
            | false =>
              have HN := hid (cmpS_gt hl he)
              go_wp2_with fail
              refine wp_region_ext (by kernel_rfl) (by kernel_rfl) ?_
              repeat (go_big_quiet_step ((fail)))
              refine wpQuiet_nil ?_
              rintro w4 ⟨⟨_, x4⟩, rfl⟩
              have hb1 : ∀ z : ExtOf w4, z.1.cell? ⟨w.heap.size, 3, none⟩ = _ := fun z => (x4.trans z.2).cell ca
              have hb2 : ∀ z : ExtOf w4, z.1.cell? ⟨w.heap.size + 1, 3, none⟩ = _ := fun z => (x4.trans z.2).cell cb
              have hb3 : ∀ z : ExtOf w4, z.1.cell? ⟨b, off + j, none⟩ = _ := fun z => (x4.trans z.2).cell hc
              have hb4 : ∀ z : ExtOf w4, z.1.cell? ⟨b2, off2 + j, none⟩ = _ := fun z => (x4.trans z.2).cell hc2
              go_wp2_with fail
              refine wp_region_ext (by kernel_rfl) (by kernel_rfl) ?_
              repeat (go_big_quiet_step ((fail)))
              refine wpQuiet_nil ?_
              rintro w5 ⟨⟨_, x5⟩, rfl⟩
              go_wp2
              go_roundw
              case rel => exact ⟨1, j + 1, by omega, by omega, by go_num, rfl, ⟨by simp [I64], fun e => (by omega), fun _ => by rw [cmpR_tail (HKK.out.2.1 rfl).1, cmpSL_at hlt hlt2 (HKK.out.2.1 rfl).2 (by rw [HN.out]; omega), HN.out]⟩, (hx.trans x4).trans x5⟩
              case measure => simp [intOf]; omega
        · go_wp2_with (go_at_call 133; refine (spec_l8Int _ _ _).mono ?_; rintro e w2 ⟨rfl, rfl⟩)
          go_ret
          exact ⟨ret_int (by rw [cmpR_tail (HKK.out.2.1 rfl).1, cmpSL_end hj1 hj2 (HKK.out.2.1 rfl).2 (by omega)]), xw⟩
      · go_wp2_with (go_at_call 133; refine (spec_l8Int _ _ _).mono ?_; rintro e w2 ⟨rfl, rfl⟩)
        go_ret
        exact ⟨ret_int (by rw [cmpR_tail (HKK.out.2.1 rfl).1, cmpSL_end hj1 hj2 (HKK.out.2.1 rfl).2 (by omega)]), xw⟩
    · have hk1 : (K == 0) = false := by simp [hk0]
      have HN := hid (HKK.out.2.2 hk0)
      clear hk0
      by_cases hlt : j < x.fields.length
      · by_cases hlt2 : j < y.fields.length
        · go_wp2
          go_ret
          exact ⟨ret_int HN.out.symm, xw⟩
        · go_wp2
          go_ret
          exact ⟨ret_int HN.out.symm, xw⟩
      · go_wp2
        go_ret
        exact ⟨ret_int HN.out.symm, xw⟩
end Go.Proofs.YtfcbapaojoecgaaGreat

namespace Go.Proofs.YtfcbapaojoecgaaGreat
open Go.RowKit

/-- onto an empty literal, from whatever slice -/
theorem step_appsA {P : Program} {ops : Array Oper} {o : Oper} {a : Act} {w : World} {K : Act → World → Prop} {Q : Exit → Act → World → Prop} {Z : Prop} {t e : TypeId} (E : ElemT P t e strO.n 16)
    (hgd : o.guard = none) (s x : Operand) (ho : o.op = .call { callee := .builtin .append, args := #[s, x], argTypes := #[t, t] })
    {base g : Nat} (hs : a.eval s = .slice (some ⟨g, 0, none⟩) 0 0) (hbg : base ≤ g) (hg : w.heap[g]? = some (.cells #[] e (0, 0))) {A : Option Addr} {n k : Nat} (hx : a.eval x = .slice A n k) {ys : List ByteArray} (hy : Sl strR w (.slice A n k) ys)
    (hbytes : ys.length ≤ 1099511627776) {w0 : World} (h0 : w0.heap.size ≤ base) (hx0 : Ext w0 w)
    (h : ∀ v' w', Bld strO w' base e v' ys [] → Ext w0 w' → (∀ b, b < w.heap.size → b ≠ g → w'.heap[b]? = w.heap[b]?) → K (a.put o.dst v') w') :
    if Region.wanted o (yielded ops a.tmps) = true then Oper.wp P o a w K Q else Z := by
  cases A with
  | some ad => exact step_apps E hgd s x ho hs hbg hg hx hy hbytes h0 hx0 h
  | none =>
    have hw : Region.wanted o (yielded ops a.tmps) = true := by simp [Region.wanted, hgd]
    rw [if_pos hw]
    have hb : Bld strO w base e (.slice (some ⟨g, 0, none⟩) 0 0) ([] : List ByteArray) [] := Bld.emp hbg hg
    obtain ⟨ht, i, z, hi, hz, hsize, hby2, hzs⟩ := E
    have hys : ys = [] := by
      cases ys with
      | nil => rfl
      | cons y ys =>
        obtain ⟨_, _, _, e, _⟩ := hy.at_ (show 0 < (y :: ys).length by simp)
        cases e
    have hn0 : n = 0 := by have := hy.cap_.1; rw [hys] at this; exact this
    subst hn0
    subst hys
    have hr : (Builtin.append_ #[t, t] o.type #[.slice (some ⟨g, 0, none⟩) 0 0, .slice none 0 k]).run P w = .ok (.slice (some ⟨g, 0, none⟩) 0 0) w := by
      simp [Builtin.append_, run_underlying ht, sizeOf, typeInfo, hi, Builtin.lenOf, Builtin.firstCells, storeCells]
    unfold Oper.wp execOp
    simp only [ho, resolve, invoke, builtin, Sem.run_bind, Sem.run_pure, Result.andThen_ok, List.map_toArray, List.map_cons, List.map_nil, hs, hx, hr]
    exact h _ _ hb hx0 fun _ _ _ => rfl

set_option maxHeartbeats 1000000 in
set_option maxRecDepth 20000 in
theorem spec_l8Copy (v : Value) (r : Record) (w : World) (h : RecAt w v r) (hl : r.fields.length ≤ 1099511627776) :
    Calls Tryz.prog 82 #[v] w fun e w2 => ∃ v2 F, e = .returned v2 ∧ RecOwn w2 v2 r F ∧ NewF w F ∧ Ext w w2 := by
  obtain ⟨f, rfl, hok, hs⟩ := h
  obtain ⟨A, cap, rfl, hm⟩ := hs.form
  have bP := Blk.new w 72 #[.int .i64 r.source, .int .i64 r.key, .int .i64 r.version, .slice A r.fields.length cap]
  have bR := Blk.new (w.alloc (.cells #[.int .i64 r.source, .int .i64 r.key, .int .i64 r.version, .slice A r.fields.length cap] 72)) 72 #[.int .i64 0, .int .i64 0, .int .i64 0, .slice none 0 0]
  rw [World.size_alloc] at bR
  have HS := hid (show ∀ W, Ext w W → Sl strR W (.slice A r.fields.length cap) r.fields from fun W x => hs.mono x)
  have HP := hid (show ∀ W, Ext (w.alloc (.cells #[.int .i64 r.source, .int .i64 r.key, .int .i64 r.version, .slice A r.fields.length cap] 72)) W → W.cell? ⟨w.heap.size, 0, none⟩ = some (.int .i64 r.source) ∧ W.cell? ⟨w.heap.size, 1, none⟩ = some (.int .i64 r.key) ∧ W.cell? ⟨w.heap.size, 2, none⟩ = some (.int .i64 r.version) ∧ W.cell? ⟨w.heap.size, 3, none⟩ = some (.slice A r.fields.length cap) from fun W x => (bP.ext x).c4.1)
  have HR := hid (show ∀ W, Ext ((w.alloc (.cells #[.int .i64 r.source, .int .i64 r.key, .int .i64 r.version, .slice A r.fields.length cap] 72)).alloc (.cells #[.int .i64 0, .int .i64 0, .int .i64 0, .slice none 0 0] 72)) W → Blk W (w.heap.size + 1) 72 [.int .i64 0, .int .i64 0, .int .i64 0, .slice none 0 0] from fun W x => bR.ext x)
  have HE := hid (show ((((w.alloc (.cells #[.int .i64 r.source, .int .i64 r.key, .int .i64 r.version, .slice A r.fields.length cap] 72)).alloc (.cells #[.int .i64 0, .int .i64 0, .int .i64 0, .slice none 0 0] 72)).alloc (.cells #[] 9)).drew).heap[w.heap.size + 1 + 1]? = some (.cells #[] 9 (0, 0)) from by show (World.alloc _ _).heap[_]? = _; have h9 := heap_alloc_new ((w.alloc (.cells #[.int .i64 r.source, .int .i64 r.key, .int .i64 r.version, .slice A r.fields.length cap] 72)).alloc (.cells #[.int .i64 0, .int .i64 0, .int .i64 0, .slice none 0 0] 72)) (.cells #[] 9); simpa using h9)
  clear bP bR hs
  go_enter Tryz.func82, Tryz.ntmps82
  go_wp2_with fail
  go_region_held3 (fun w' => w'.cell? ⟨w.heap.size, 0, none⟩ = some (.int .i64 r.source) ∧ w'.cell? ⟨w.heap.size, 1, none⟩ = some (.int .i64 r.key) ∧ w'.cell? ⟨w.heap.size, 2, none⟩ = some (.int .i64 r.version) ∧ w'.cell? ⟨w.heap.size, 3, none⟩ = some (.slice A r.fields.length cap)) (exact HP.out _ (by repeat (first | with_reducible exact Ext.refl _ | with_reducible assumption | with_reducible refine Ext.drew ?_ | with_reducible refine Ext.alloc ?_ _ | (refine Ext.setCell ?_ (by simp) _) | with_reducible refine Ext.trans ?_ (by with_reducible assumption)))) (first | (refine step_appsA elemStrC rfl _ _ rfl rfl (base := w.heap.size + 1 + 1) (Nat.le_refl _) HE.out rfl (HS.out _ (by repeat (first | with_reducible exact Ext.refl _ | with_reducible assumption | with_reducible refine Ext.drew ?_ | with_reducible refine Ext.alloc ?_ _ | with_reducible refine Ext.trans ?_ (by with_reducible assumption)))) hl (w0 := (w.alloc (.cells #[.int .i64 r.source, .int .i64 r.key, .int .i64 r.version, .slice A r.fields.length cap] 72))) (by rw [World.size_alloc]; omega) (by repeat (first | with_reducible exact Ext.refl _ | with_reducible assumption | with_reducible refine Ext.drew ?_ | with_reducible refine Ext.alloc ?_ _ | with_reducible refine Ext.trans ?_ (by with_reducible assumption))) ?_; intro v8 w8 hB8 x8 k8; have b8 := (HR.out _ (by repeat (first | with_reducible exact Ext.refl _ | with_reducible assumption | with_reducible refine Ext.drew ?_ | with_reducible refine Ext.alloc ?_ _ | with_reducible refine Ext.trans ?_ (by with_reducible assumption)))).keep (k8 _ (by simp) (by omega)); obtain ⟨⟨c80, c81, c82, c83⟩, f8⟩ := b8.c4; have f80 := f8 0; have f81 := f8 1; have f82 := f8 2; have f83 := f8 3; obtain ⟨A8, c8, e8, _⟩ := hB8.sl.form; subst e8))
  all_goals
    have b9 := (Blk.store4 b8 (.int .i64 r.source) (.int .i64 r.key) (.int .i64 r.version) (.slice A8 r.fields.length c8)).2.2.2.2
    obtain ⟨⟨r0, r1, r2, r3⟩, _⟩ := b9.c4
    obtain ⟨F8, o8, n8, m8, g8⟩ := Bld.own_ne hB8 b8 (by decide)
    have x9 : Ext w w8 := ((Ext.refl w).alloc _).trans x8
    have HI := hid hok
    clear hok HS HP HR HE
    go_wp2
    refine bodyPost_ret (v := .agg #[.int .i64 r.source, .int .i64 r.key, .int .i64 r.version, .slice A8 r.fields.length c8]) (by simp [results, Tryz.results82, go_sem, r0, r1, r2, r3]) rfl ?_
    exact ⟨_, F8, rfl, ⟨_, rfl, HI.out, (((o8.setCell (p := ⟨w.heap.size + 1, 0, none⟩) g8 _).setCell (p := ⟨w.heap.size + 1, 1, none⟩) g8 _).setCell (p := ⟨w.heap.size + 1, 2, none⟩) g8 _).setCell (p := ⟨w.heap.size + 1, 3, none⟩) g8 _⟩, ⟨n8, fun b hb => by have := m8 b hb; omega⟩, (((x9.setCell (by simp) _).setCell (by simp) _).setCell (by simp) _).setCell (by simp) _⟩
end Go.Proofs.YtfcbapaojoecgaaGreat

namespace Go.Proofs.YtfcbapaojoecgaaGreat
open Go.RowKit

set_option maxHeartbeats 400000 in
theorem IndexFunc_qr (g n cap : Nat) (row : List Q4) (p : Q4 → Bool) (fn : FuncId) (cp : Array Value) (w : World) (hr : RowQ w g 72 row) (hn : n ≤ row.length) (hl : n ≤ 1048576)
    (hfn : ∀ (args : Array Value) (W : World), Sem.run Tryz.prog (callFunc fn args) W = .ok (.enter fn args) W)
    (hf : ∀ (W : World) (q : Q4), q ∈ row.take n → Kp g w W → Calls Tryz.prog fn (#[.agg #[q.a, q.b, q.c, q.d]] ++ cp) W fun e W2 => e = .returned (.bool (p q)) ∧ Ext W W2) :
    Calls Tryz.prog 77 #[.slice (some ⟨g, 0, none⟩) n cap, .func (.func fn) #[] cp] w fun e w2 => e = .returned (.int .i64 (idxF p 0 (row.take n))) ∧ Ext w w2 := by
  have htl : (row.take n).length = n := by rw [List.length_take]; omega
  have HTL := hid htl
  clear htl
  go_enter Tryz.func77, Tryz.ntmps77
  go_wp2
  go_loopw [8] (fun i wr => ∃ k : Nat, k ≤ n ∧ i = .int .i64 k ∧ (∀ x ∈ (row.take n).take k, p x = false) ∧ Ext w wr) (fun i _ => n - (intOf i).toNat)
  case atStart => exact ⟨0, Nat.zero_le _, rfl, by simp, Ext.refl _⟩
  case round =>
    obtain ⟨k, hk, rfl, hz, hx⟩ := hrel
    have HZ := hid hz
    clear hz
    by_cases hlt : k < n
    · have hkl : k < (row.take n).length := by rw [HTL.out]; exact hlt
      have hkr : k < row.length := by omega
      obtain ⟨c0, c1, c2, c3⟩ := (hr.ext hx).cells hkr
      have HQ := hid (show (row.take n)[k] = row[k] from List.getElem_take)
      go_wp2_with fail
      refine (hf wr row[k] (by rw [← HQ.out]; exact List.getElem_mem hkl) hx.kp).mono ?_
      rintro e w2 ⟨rfl, x2⟩
      by_cases hp : p row[k] = true
      · rw [hp]
        have HP := hid (show p ((row.take n)[k]) = true by rw [HQ.out]; exact hp)
        clear hp
        go_wp2
        go_ret
        exact ⟨ret_int (idxF_at p (row.take n) k hkl HZ.out HP.out).symm, hx.trans x2⟩
      · have hp' : p row[k] = false := by simpa using hp
        have HP := hid (show p ((row.take n)[k]) = false by rw [HQ.out]; exact hp')
        rw [hp']
        clear hp hp'
        go_wp2
        go_roundw
        case rel => exact ⟨k + 1, by omega, by go_num, take_snoc_all _ (row.take n) k hkl HZ.out HP.out, hx.trans x2⟩
        case measure => simp [intOf]; omega
    · go_wp2
      go_ret
      exact ⟨ret_int (idxF_all p (row.take n) k (by rw [HTL.out]; exact hlt) HZ.out).symm, hx⟩

set_option maxHeartbeats 2000000 in
set_option maxRecDepth 20000 in
theorem DeleteFunc_qr (g n : Nat) (row : List Q4) (p : Q4 → Bool) (fn : FuncId) (cp : Array Value) (w : World) (hr : RowQ w g 72 row) (hn : n ≤ row.length) (hl : n ≤ 1048576) (hm : row.length ≤ maxLen) (h1 : ∀ q ∈ row.take n, RecQ q)
    (hfn : ∀ (args : Array Value) (W : World), Sem.run Tryz.prog (callFunc fn args) W = .ok (.enter fn args) W)
    (hf : ∀ (W : World) (q : Q4), q ∈ row.take n → Kp g w W → Calls Tryz.prog fn (#[.agg #[q.a, q.b, q.c, q.d]] ++ cp) W fun e W2 => e = .returned (.bool (p q)) ∧ Ext W W2) :
    Calls Tryz.prog 48 #[.slice (some ⟨g, 0, none⟩) n row.length, .func (.func fn) #[] cp] w fun e w2 => ∃ row2 m, e = .returned (.slice (some ⟨g, 0, none⟩) m row.length) ∧ RowQ w2 g 72 row2 ∧ row2.length = row.length ∧
      m = ((row.take n).filter fun q => !p q).length ∧ m ≤ n ∧ row2.take m = (row.take n).filter (fun q => !p q) ∧ Kp g w w2 ∧ ∀ w0 : World, w0.heap.size ≤ g → Ext w0 w → Ext w0 w2 := by
  unfold maxLen at hm
  obtain ⟨cap, hcap⟩ : ∃ cap, cap = row.length := ⟨_, rfl⟩
  rw [← hcap] at hm ⊢
  have hnc : n ≤ cap := by omega
  have HCAP := hid hcap
  have HR := hid hr
  have HN := hid hn
  have hi := idxF_ltq p (row.take n) 0
  obtain ⟨ix, hix⟩ : ∃ ix, ix = idxF p 0 (row.take n) := ⟨_, rfl⟩
  have HIX := hid hix
  have HI := hid hi
  have HIF := hid (IndexFunc_qr g n cap row p fn cp w hr hn hl hfn hf)
  have HHF := hid hf
  clear hcap hr hn hi hix hf
  go_enter Tryz.func48, Tryz.ntmps48
  go_wp2_with fail
  refine HIF.out.mono ?_
  rintro e w1 ⟨rfl, x1⟩
  rw [← HIX.out]
  by_cases hneg : ix = -1
  · have hno : ∀ q ∈ row.take n, p q = false := by
      rcases HI.out with ⟨_, h⟩ | ⟨j, _, h, _⟩
      · exact h
      · rw [← HIX.out] at h; omega
    have hfil : (row.take n).filter (fun q => !p q) = row.take n := List.filter_eq_self.2 fun q hq => by rw [hno q hq]; rfl
    have HF := hid hfil
    subst hneg
    clear hno hfil
    go_wp2
    go_ret
    refine ⟨row, n, rfl, HR.out.ext x1, HCAP.out.symm, ?_, Nat.le_refl _, HF.out.symm, x1.kp, fun w0 _ hx => hx.trans x1⟩
    have := HN.out
    rw [HF.out, List.length_take]; omega
  · obtain ⟨i0, hi0, hix2, hex⟩ : ∃ i0, i0 < n ∧ ix = (i0 : Int) ∧ (∀ q ∈ (row.take n).take i0, p q = false) ∧ ∃ h : i0 < (row.take n).length, p (row.take n)[i0] = true := by
      have hfst := idxF_first p (row.take n) 0
      rcases HI.out with ⟨h, _⟩ | ⟨j, hj, h, hj2, hp⟩
      · exact absurd (HIX.out.trans h) hneg
      · rw [List.length_take] at hj
        exact ⟨j, by omega, by rw [HIX.out, h]; simp, hfst j (by rw [h]), hj2, hp⟩
    subst hix2
    have HEX := hid hex
    have hne1 : ((i0 : Int) == -1) = false := by rw [beq_eq_false_iff_ne]; exact hneg
    clear hex hneg
    have htl : (row.take n).length = n := by rw [List.length_take]; have := HN.out; omega
    have HTL := hid htl
    clear htl
    go_wp2_with fail
    go_loopw [5, 6] (fun si sj wr => ∃ (i j : Nat) (row2 : List Q4), si = .int .i64 i ∧ sj = .int .i64 j ∧ i < j ∧ j ≤ n ∧ RowQ wr g 72 row2 ∧ row2.length = cap ∧ row2.take i = ((row.take n).take j).filter (fun q => !p q) ∧ i = (((row.take n).take j).filter (fun q => !p q)).length ∧ (∀ k, j ≤ k → k < n → row2[k]? = row[k]?) ∧ Kp g w wr ∧ ∀ w0 : World, w0.heap.size ≤ g → Ext w0 w → Ext w0 wr) (fun _ sj _ => n - (intOf sj).toNat)
    case atStart =>
      have h2 : ((row.take n).take (i0 + 1)).filter (fun q => !p q) = (row.take n).take i0 := by
        obtain ⟨h3, h4, h5⟩ := HEX.out
        rw [List.take_succ_eq_append_getElem h4, List.filter_append, List.filter_eq_self.2 (fun q hq => by rw [h3 q hq]; rfl), List.filter_cons, h5]
        simp only [Bool.not_true, Bool.false_eq_true, if_false, List.filter_nil, List.append_nil]
      have h6 := HTL.out
      refine ⟨i0, i0 + 1, row, rfl, by go_num, by omega, by omega, HR.out.ext x1, HCAP.out.symm, ?_, ?_, fun _ _ _ => rfl, x1.kp, fun w0 _ hx => hx.trans x1⟩
      · rw [h2, List.take_take, Nat.min_eq_left (by omega)]
      · rw [h2, List.length_take, h6]; omega
    case round =>
      obtain ⟨i, j, row2, rfl, rfl, hij, hj, hR, hrl, htk, hil, hsame, hkp, hx⟩ := hrel
      have HR2 := hid hR
      have HTK := hid (And.intro htk hil)
      have HS := hid hsame
      have HRL := hid hrl
      have HX := hid hx
      clear htk hil hsame hx hrl
      by_cases hlt : j < n
      · have hjr : j < row2.length := by have := HRL.out; omega
        have hjr2 : j < row.length := by have := HN.out; omega
        have hjt : j < (row.take n).length := by rw [HTL.out]; exact hlt
        have hq0 : row2[j] = row[j] := by
          have := HS.out j (Nat.le_refl _) hlt
          rw [List.getElem?_eq_getElem hjr, List.getElem?_eq_getElem hjr2] at this
          exact Option.some.inj this
        obtain ⟨c0, c1, c2, c3⟩ := hR.cells hjr
        rw [hq0] at c0 c1 c2 c3
        have hmem : row[j] ∈ row.take n := by
          have e : (row.take n)[j] = row[j] := List.getElem_take
          rw [← e]; exact List.getElem_mem hjt
        have hstep : ((row.take n).take (j + 1)).filter (fun q => !p q) = ((row.take n).take j).filter (fun q => !p q) ++ (if p row[j] = true then [] else [row[j]]) := by
          have e : (row.take n)[j] = row[j] := List.getElem_take
          rw [List.take_succ_eq_append_getElem hjt, List.filter_append, e]
          congr 1
          by_cases hp : p row[j] = true
          · simp [hp]
          · simp [hp]
        obtain ⟨q, hq⟩ : ∃ q, q = row[j] := ⟨_, rfl⟩
        rw [← hq] at c0 c1 c2 c3 hmem hstep
        have HQ := hid hq
        have HST := hid hstep
        have HM := hid hmem
        clear hq hmem hstep hq0 hR
        obtain ⟨va, vb, vt, vA, vm, vc, rfl⟩ := h1 q HM.out
        dsimp only at c0 c1 c2 c3
        have xb : Ext wr (wr.alloc (.cells #[.int .i64 va, .int .i64 vb, .int .i64 vt, .slice vA vm vc] 72)) := (Ext.refl wr).alloc _
        have HCALL := hid (HHF.out (wr.alloc (.cells #[.int .i64 va, .int .i64 vb, .int .i64 vt, .slice vA vm vc] 72)) _ HM.out (hkp.trans xb.kp))
        dsimp only at HCALL
        go_wp2_with fail
        refine HCALL.out.mono ?_
        rintro e w2 ⟨rfl, x2⟩
        clear c0 c1 c2 c3
        obtain ⟨pq, hpq⟩ : ∃ pq, pq = p ⟨.int .i64 va, .int .i64 vb, .int .i64 vt, .slice vA vm vc⟩ := ⟨_, rfl⟩
        rw [← hpq]
        have HPQ := hid hpq
        clear hpq
        cases pq with
        | true =>
          have hs2 : ((row.take n).take (j + 1)).filter (fun q => !p q) = ((row.take n).take j).filter (fun q => !p q) := by rw [HST.out, if_pos HPQ.out.symm, List.append_nil]
          have HS2 := hid hs2
          clear hs2
          go_wp2
          go_roundw
          case rel => exact ⟨i, j + 1, row2, rfl, by go_num, by omega, by omega, HR2.out.ext (xb.trans x2), HRL.out, by rw [HS2.out]; exact HTK.out.1, by rw [HS2.out]; exact HTK.out.2, fun k h8 h9 => HS.out k (by omega) h9, hkp.trans (xb.trans x2).kp, fun w0 h8 h9 => (HX.out w0 h8 h9).trans (xb.trans x2)⟩
          case measure => simp [intOf]; omega
        | false =>
          have hs2 : ((row.take n).take (j + 1)).filter (fun q => !p q) = ((row.take n).take j).filter (fun q => !p q) ++ [⟨.int .i64 va, .int .i64 vb, .int .i64 vt, .slice vA vm vc⟩] := by rw [HST.out, if_neg (by rw [← HPQ.out]; simp)]
          have HS2 := hid hs2
          have hir : i < row2.length := by have := HRL.out; omega
          have hR3 := HR2.out.ext (xb.trans x2)
          obtain ⟨d0, d1, d2, d3⟩ := hR3.cells hir
          have hfz := hR3.frozen
          obtain ⟨b0, b1, b2, b3⟩ := (⟨x2.box.1 0, x2.box.1 1, x2.box.1 2, x2.box.1 3⟩ : _ ∧ _ ∧ _ ∧ _)
          have HST4 := hid (hR3.store hir ⟨.int .i64 va, .int .i64 vb, .int .i64 vt, .slice vA vm vc⟩)
          have HK4 := hid (fun a b c d => (hkp.trans (xb.trans x2).kp).trans (Kp.store4 g (i * 4) a b c d w2))
          have HX4 := hid (fun (w0 : World) (h8 : w0.heap.size ≤ g) (h9 : Ext w0 w) a b c d => Ext.store4 ((HX.out w0 h8 h9).trans (xb.trans x2)) h8 (i * 4) a b c d)
          dsimp only at HST4
          clear hs2 hR3
          go_wp2
          go_roundw
          case rel =>
            refine ⟨i + 1, j + 1, row2.set i ⟨.int .i64 va, .int .i64 vb, .int .i64 vt, .slice vA vm vc⟩, by go_num, by go_num, by omega, by omega, HST4.out, by rw [List.length_set]; exact HRL.out, ?_, ?_, fun k h8 h9 => ?_, HK4.out _ _ _ _, fun w0 h8 h9 => HX4.out w0 h8 h9 _ _ _ _⟩
            · rw [HS2.out, ← HTK.out.1, List.take_succ_eq_append_getElem (by rw [List.length_set]; exact hir), List.getElem_set_self]
              congr 1
              rw [List.take_set_of_le (Nat.le_refl _)]
            · rw [HS2.out, List.length_append, ← HTK.out.2]; rfl
            · rw [List.getElem?_set_ne (by omega)]; exact HS.out k (by omega) h9
          case measure => simp [intOf]; omega
      · obtain rfl : j = n := by omega
        have hlr := HRL.out
        have hzz : (List.replicate (j - i) ([.int .i64 0, .int .i64 0, .int .i64 0, .slice none 0 0] : List Value)).flatten = flatQ (List.replicate (j - i) ⟨.int .i64 0, .int .i64 0, .int .i64 0, .slice none 0 0⟩) := by
          unfold flatQ
          rw [List.flatMap_def, List.map_replicate]; rfl
        have hcl2 : ∀ ty, (Builtin.clear_ #[31] ty #[.slice (some ⟨g, i * 4, none⟩) (j - i) (cap - i)]).run Tryz.prog wr = .ok (.tuple #[]) (wr.setCells g (i * 4) (List.replicate (j - i) ([.int .i64 0, .int .i64 0, .int .i64 0, .slice none 0 0] : List Value)).flatten) := fun ty => by
          refine run_clear_many wr _ 72 ty (.agg #[.int .i64 0, .int .i64 0, .int .i64 0, .slice none 0 0]) [.int .i64 0, .int .i64 0, .int .i64 0, .slice none 0 0] Tryz.underlying31 (fun w => by kernel_rfl) rfl (by simp [Value.oneCell']) g (i * 4) (j - i) _ (by omega) (fun j2 hj2 => ?_) (fun j2 hj2 => hR.frozen _)
          have h3 : ([.int .i64 0, .int .i64 0, .int .i64 0, .slice none 0 0] : List Value).length = 4 := rfl
          rw [h3] at hj2
          rw [cell_of_row wr g _ _ _ (0, 0) hR, List.getElem?_toArray, List.getElem?_eq_getElem (by rw [flatQ_len]; omega)]
          rfl
        have hR4 := hR.setCells (i := i) (List.replicate (j - i) ⟨.int .i64 0, .int .i64 0, .int .i64 0, .slice none 0 0⟩) (by rw [List.length_replicate]; omega)
        rw [← hzz] at hR4
        have HR4 := hid hR4
        have u1 : ¬ cap = i := by omega
        have u2 : i ≤ cap := by omega
        have u3 : (i : Int) ≤ (j : Int) := by omega
        have u4 : i ≤ j := by omega
        clear hR hR4 hzz hlr
        go_wp2
        go_ret
        have htj : (row.take j).take j = row.take j := List.take_of_length_le (by rw [HTL.out]; exact Nat.le_refl _)
        have h7 := HTK.out
        rw [htj] at h7
        refine ⟨_, i, rfl, HR4.out, ?_, h7.2, by omega, ?_, hkp.trans (Kp.setCells g _ _ _), fun w0 h8 h9 => Ext.setCells h8 _ _ (HX.out w0 h8 h9)⟩
        · have := HRL.out
          simp only [List.length_append, List.length_take, List.length_drop, List.length_replicate]; omega
        · have := HRL.out
          rw [List.take_append_of_le_length (by rw [List.length_take]; omega), List.take_take, Nat.min_self]; exact h7.1

set_option maxHeartbeats 400000 in
theorem DeleteFunc_nilr (fn : FuncId) (cp : Array Value) (w : World) :
    Calls Tryz.prog 48 #[.slice none 0 0, .func (.func fn) #[] cp] w fun e w2 => e = .returned (.slice none 0 0) ∧ Ext w w2 := by
  go_enter Tryz.func48, Tryz.ntmps48
  go_wp2_with fail
  refine (show Calls Tryz.prog 77 #[.slice none 0 0, .func (.func fn) #[] cp] w fun e w2 => e = .returned (.int .i64 (-1)) ∧ Ext w w2 from ?_).mono ?_
  · go_enter Tryz.func77, Tryz.ntmps77
    go_wp2
    go_loopw [8] (fun i wr => i = .int .i64 0 ∧ Ext w wr) (fun _ _ => 0)
    case atStart => exact ⟨rfl, Ext.refl _⟩
    case round =>
      obtain ⟨rfl, hx⟩ := hrel
      go_wp2
      go_ret
      exact ⟨rfl, hx⟩
  rintro e w2 ⟨rfl, x2⟩
  go_wp2
  go_ret
  exact ⟨rfl, x2⟩

end Go.Proofs.YtfcbapaojoecgaaGreat

namespace Go.Proofs.YtfcbapaojoecgaaGreat
open Go.RowKit

/-- the digits of a number, ahead of a text -/
def mtL : Nat → Nat → ByteArray → ByteArray
  | 0, _, s => s
  | f + 1, j, s => if j = 0 then s else mtL f (j / 10) (⟨#[UInt8.ofNat (48 + (j : Int) % 10).toNat]⟩ ++ s)
def mkT (k : Int) : ByteArray := if k ≤ 0 then ⟨#[109, 48]⟩ else ⟨#[109]⟩ ++ mtL k.toNat k.toNat ⟨#[]⟩
theorem mtL_zero (f : Nat) (s : ByteArray) : mtL f 0 s = s := by cases f <;> rfl
theorem mtL_step {f j : Nat} {s : ByteArray} (hj : 0 < j) (hf : j ≤ f) : ∃ f2, j / 10 ≤ f2 ∧ mtL f j s = mtL f2 (j / 10) (⟨#[UInt8.ofNat (48 + (j : Int) % 10).toNat]⟩ ++ s) := by
  cases f with
  | zero => omega
  | succ f =>
    refine ⟨f, by omega, ?_⟩
    rw [mtL, if_neg (by omega)]
theorem mkT_pos {k : Int} (h : ¬ k ≤ 0) : mkT k = ⟨#[109]⟩ ++ mtL k.toNat k.toNat ⟨#[]⟩ := by unfold mkT; rw [if_neg h]
theorem mkT_no {k : Int} (h : k ≤ 0) : mkT k = ⟨#[109, 48]⟩ := by unfold mkT; rw [if_pos h]

set_option maxHeartbeats 400000 in
set_option maxRecDepth 20000 in
theorem markText_t (k : Int) (w : World) (h0 : 0 ≤ k) (h1 : k ≤ 1152921504606846976) :
    Calls Tryz.prog 154 #[.int .i64 k] w fun e w2 => e = .returned (.string (mkT k)) ∧ (mkT k).size ≤ maxLen ∧ Ext w w2 := by
  by_cases hz : k ≤ 0
  · have HM := hid (mkT_no hz)
    go_enter Tryz.func154, Tryz.ntmps154
    go_wp2
    go_ret
    exact ⟨by rw [HM.out]; rfl, by rw [HM.out]; decide, Ext.refl _⟩
  · have HM := hid (mkT_pos hz)
    go_enter Tryz.func154, Tryz.ntmps154
    go_wp2
    go_loopw [0, 3] (fun n o wr => ∃ (j : Nat) (s : ByteArray), n = .int .i64 j ∧ o = .string s ∧ s.size + j ≤ 1152921504606846976 ∧ (∃ f, j ≤ f ∧ mtL f j s = mtL k.toNat k.toNat ⟨#[]⟩) ∧ Ext w wr) (fun n _ _ => (intOf n).toNat)
    case atStart => exact ⟨k.toNat, ByteArray.empty, by rw [Int.toNat_of_nonneg h0], rfl, by simp; omega, ⟨k.toNat, Nat.le_refl _, rfl⟩, Ext.refl _⟩
    case round =>
      obtain ⟨j, s, rfl, rfl, hs, hm, hx⟩ := hrel
      have HMT := hid hm
      clear hm
      by_cases hj : 0 < j
      · have hcv : (convert 56 9 (.slice (some ⟨wr.heap.size, 0, none⟩) 1 1)).run Tryz.prog (wr.alloc (.cells #[.int .u8 (48 + (j : Int) % 10)] 5)) = .ok (.string ⟨#[UInt8.ofNat (48 + (j : Int) % 10).toNat]⟩) (wr.alloc (.cells #[.int .u8 (48 + (j : Int) % 10)] 5)) :=
          run_convert_bytes_back (P := Tryz.prog) (wr.alloc (.cells #[.int .u8 (48 + (j : Int) % 10)] 5)) 56 9 5 ⟨wr.heap.size, 0, none⟩ 1 [UInt8.ofNat (48 + (j : Int) % 10).toNat] Tryz.underlying56 Tryz.underlying5 Tryz.underlying9 (fun i hi => by
            have hi0 : i = 0 := by simpa using hi
            subst hi0
            have hu : (UInt8.ofNat (48 + (j : Int) % 10).toNat).toNat = (48 + (j : Int) % 10).toNat := by simp; omega
            have e := (Ext.refl (wr.alloc (.cells #[.int .u8 (48 + (j : Int) % 10)] 5))).box.1 0
            rw [add_eq, Nat.zero_add]
            simp only [List.getElem_cons_zero, hu]
            rw [e, Int.toNat_of_nonneg (by omega)]
            rfl)
        have hnew : Hid (∃ f, j / 10 ≤ f ∧ mtL f (j / 10) (⟨#[UInt8.ofNat (48 + (j : Int) % 10).toNat]⟩ ++ s) = mtL k.toNat k.toNat ⟨#[]⟩) := by
          obtain ⟨f, hf, e⟩ := HMT.out
          obtain ⟨f2, hf2, e2⟩ := mtL_step (s := s) hj hf
          exact hid ⟨f2, hf2, e2 ▸ e⟩
        have HL := hid (show (j : Int) / 10 < j by omega)
        have hs2 : s.size ≤ 1152921504606846976 := by omega
        generalize hx9 : UInt8.ofNat (48 + (j : Int) % 10).toNat = x9 at hcv hnew
        clear hx9
        have hsz : (⟨#[x9]⟩ : ByteArray).size = 1 := rfl
        go_wp2
        go_roundw
        case rel => exact ⟨j / 10, ⟨#[x9]⟩ ++ s, by go_num, rfl, by rw [ByteArray.size_append, hsz]; omega, hnew.out, hx.alloc _⟩
        case measure => have := HL.out; simp [intOf]; omega
      · have hj0 : Hid (mkT k = ⟨#[109]⟩ ++ s) := by
          obtain ⟨f, hf, e⟩ := HMT.out
          have : j = 0 := by omega
          subst this
          rw [mtL_zero] at e
          exact hid (by rw [HM.out, ← e])
        go_wp2
        go_ret
        exact ⟨by rw [hj0.out]; rfl, by rw [hj0.out, ByteArray.size_append]; unfold maxLen; have : (⟨#[109]⟩ : ByteArray).size = 1 := rfl; omega, hx⟩

theorem OwnSl.str_store {w : World} {v : Value} {xs : List ByteArray} {F : List Nat} (h : OwnSl strO w v xs F) (hN : F.Nodup) {i : Nat} (hi : i < xs.length) : ∃ g off cap, v = .slice (some ⟨g, off, none⟩) xs.length cap ∧ g ∈ F ∧
    w.cell? ⟨g, off + i, none⟩ = some (.string xs[i]) ∧ w.frozen? ⟨g, off + i, none⟩ = false ∧ ∀ x : ByteArray, x.size ≤ maxLen → OwnSl strO (w.setCell ⟨g, off + i, none⟩ (.string x)) v (xs.set i x) F := by
  obtain ⟨g, off, cap, c, F1, rfl, hg, _, _, _, ⟨⟨rfl, _⟩, rfl⟩, _, hc, hf, _, hst⟩ := h.elem hN hi
  have h1 : strO.n = 1 := rfl
  refine ⟨g, off, cap, rfl, hg, ?_, hf _, fun x hx => ?_⟩
  · simpa [h1] using hc 0 (by omega)
  · have := hst 0 (.string x) x (by omega) ⟨⟨rfl, hx⟩, rfl⟩
    simpa [h1] using this

/-- the marks of k, of k + 1 and so on -/
def MkS (k : Int) (ys : List ByteArray) : Prop := ∀ i, i < ys.length → ys[i]? = some (mkT (k + i))

set_option maxHeartbeats 400000 in
theorem markStringS_t (v : Value) (xs : List ByteArray) (F : List Nat) (k : Int) (w : World) (h : OwnSl strO w v xs F) (hN : F.Nodup) (h0 : 0 ≤ k) (hb : k + xs.length ≤ 1152921504606846976) :
    Calls Tryz.prog 112 #[v, .int .i64 k] w fun e w2 => ∃ ys, e = .returned (.int .i64 (k + xs.length)) ∧ OwnSl strO w2 v ys F ∧ ys.length = xs.length ∧ MkS k ys ∧ Chg F w w2 := by
  obtain ⟨A, cap, rfl, hm⟩ := h.form
  go_enter Tryz.func112, Tryz.ntmps112
  go_wp2
  go_loopw [1, 5] (fun l i wr => ∃ (j : Nat) (ys : List ByteArray), j ≤ xs.length ∧ i = .int .i64 j ∧ l = .int .i64 (k + j) ∧ OwnSl strO wr (.slice A xs.length cap) ys F ∧ Hid (ys.length = xs.length) ∧ Hid (∀ i, i < j → ys[i]? = some (mkT (k + i))) ∧ Chg F w wr) (fun _ i _ => xs.length - (intOf i).toNat)
  case atStart => exact ⟨0, xs, Nat.zero_le _, rfl, by simp, h, hid rfl, hid (fun i hi => absurd hi (Nat.not_lt_zero _)), .refl _ _⟩
  case round =>
    obtain ⟨j, ys, hj, rfl, rfl, ho, hy, hmk, hc⟩ := hrel
    by_cases hlt : j < xs.length
    · go_wp2_with fail
      refine (markText_t (k + j) _ (by omega) (by omega)).mono ?_
      rintro e w2 ⟨rfl, hs, x2⟩
      have ho2 := ho.ext x2
      obtain ⟨g, off, cap2, e, hg, hcell, hfr, hst⟩ := ho2.str_store hN (i := j) (by rw [hy.out]; exact hlt)
      injection e with e1 e2 e3
      subst e1
      have HS := hid (hst (mkT (k + j)) hs)
      have hnew : Hid (∀ i, i < j + 1 → (ys.set j (mkT (k + j)))[i]? = some (mkT (k + i))) := hid (fun i hi => by
        rw [List.getElem?_set]
        by_cases e : j = i
        · subst e
          rw [if_pos rfl, if_pos (by rw [hy.out]; exact hlt)]
        · rw [if_neg e]
          exact hmk.out i (by omega))
      have hlt2 := hc.trans (Chg.of_ext x2)
      clear hst e2 e3
      go_wp2
      go_roundw
      case rel => exact ⟨j + 1, _, by omega, by go_num, by go_num, HS.out, hid (by rw [List.length_set]; exact hy.out), hnew, hlt2.setCell hg _⟩
      case measure => simp [intOf]; omega
    · go_wp2
      go_ret
      exact ⟨ys, ret_int (by omega), ho, hy.out, (fun i hi => hmk.out i (by have := hy.out; omega)), hc⟩

set_option maxHeartbeats 400000 in
set_option maxRecDepth 20000 in
theorem heldStringS_c (v : Value) (ys : List ByteArray) (k : Int) (w : World) (h : Sl strR w v ys) (hi : MkS k ys) (h0 : 0 ≤ k) (hb : k + ys.length ≤ 1152921504606846976) :
    Calls Tryz.prog 113 #[v, .int .i64 k] w fun e w2 => e = .returned (.int .i64 (k + ys.length)) ∧ Ext w w2 := by
  obtain ⟨A, cap, rfl, hm⟩ := h.form
  go_enter Tryz.func113, Tryz.ntmps113
  go_wp2
  go_loopw [1, 5] (fun l i wr => ∃ j : Nat, j ≤ ys.length ∧ i = .int .i64 j ∧ l = .int .i64 (k + j) ∧ Ext w wr) (fun _ i _ => ys.length - (intOf i).toNat)
  case atStart => exact ⟨0, Nat.zero_le _, rfl, by simp, Ext.refl _⟩
  case round =>
    obtain ⟨j, hj, rfl, rfl, hx⟩ := hrel
    by_cases hlt : j < ys.length
    · obtain ⟨b, off, rfl, hb1, hc⟩ := h.str hlt
      have hv := hi j hlt
      rw [List.getElem?_eq_getElem hlt] at hv
      injection hv with hv
      rw [hv] at hc
      clear hv
      have z0 : ∀ z : ExtOf wr, z.1.cell? ⟨b, off + j, none⟩ = some (.string (mkT (k + j))) := fun z => (hx.trans z.2).cell hc
      clear hc
      go_wp2_with fail
      refine wp_region_ext (by kernel_rfl) (by kernel_rfl) ?_
      repeat (go_big_quiet_step (((go_at_call 154; exact quiet_ext ((markText_t _ _ (by omega) (by omega)).mono fun e w2 h => ⟨h.1, h.2.2⟩)))))
      refine wpQuiet_nil ?_
      rintro w5 ⟨⟨_, x5⟩, rfl⟩
      go_wp2
      go_roundw
      case rel => exact ⟨j + 1, by omega, by go_num, by go_num, hx.trans x5⟩
      case measure => simp [intOf]; omega
    · go_wp2
      go_ret
      exact ⟨ret_int (by omega), hx⟩
def recSum (xs : List Record) : Nat := (xs.map fun r => 3 + r.fields.length).sum
theorem recSum_step (xs : List Record) (i : Nat) (h : i < xs.length) : recSum (xs.take (i + 1)) = recSum (xs.take i) + (3 + xs[i].fields.length) := by
  rw [List.take_succ_eq_append_getElem h]; unfold recSum; rw [List.map_append, List.sum_append]; simp
theorem recSum_le (xs : List Record) (i : Nat) : recSum (xs.take i) ≤ recSum xs := by
  have h := List.take_append_drop i xs
  have : recSum xs = recSum (xs.take i) + recSum (xs.drop i) := by
    unfold recSum; rw [← List.sum_append, ← List.map_append, h]
  omega
theorem recSum_ms (xs : List Record) : recSum xs ≤ 3 * (xs.length + sumBy msRec xs) := by
  unfold recSum sumBy
  induction xs with
  | nil => simp
  | cons x xs ih =>
    simp only [List.map_cons, List.sum_cons, List.length_cons] at ih ⊢
    have : x.fields.length ≤ msRec x := by unfold msRec; omega
    omega

theorem OwnSl.rec_at {w : World} {v : Value} {xs : List Record} {F : List Nat} (h : OwnSl recordO w v xs F) (hN : F.Nodup) {i : Nat} (hi : i < xs.length) : ∃ g off cap m F1, v = .slice (some ⟨g, off, none⟩) xs.length cap ∧ g ∈ F ∧ (∀ o, w.frozen? ⟨g, o, none⟩ = false) ∧
    (w.cell? ⟨g, off + i * 4, none⟩ = some (.int .i64 xs[i].source) ∧ w.cell? ⟨g, off + i * 4 + 1, none⟩ = some (.int .i64 xs[i].key) ∧ w.cell? ⟨g, off + i * 4 + 2, none⟩ = some (.int .i64 xs[i].version) ∧ w.cell? ⟨g, off + i * 4 + 3, none⟩ = some m) ∧
    (∀ u, I64 u → OwnSl recordO (w.setCell ⟨g, off + i * 4, none⟩ (.int .i64 u)) v (xs.set i ⟨u, xs[i].key, xs[i].version, xs[i].fields⟩) F) ∧
    (∀ u, I64 u → OwnSl recordO (w.setCell ⟨g, off + i * 4 + 1, none⟩ (.int .i64 u)) v (xs.set i ⟨xs[i].source, u, xs[i].version, xs[i].fields⟩) F) ∧
    (∀ u, I64 u → OwnSl recordO (w.setCell ⟨g, off + i * 4 + 2, none⟩ (.int .i64 u)) v (xs.set i ⟨xs[i].source, xs[i].key, u, xs[i].fields⟩) F) ∧
    (∀ b ∈ F1, b ∈ F) ∧ F1.Nodup ∧ OwnSl strO w m xs[i].fields F1 ∧
    ∀ w2 zs, (∀ b ∈ F, b ∉ F1 → w2.heap[b]? = w.heap[b]?) → OwnSl strO w2 m zs F1 → OwnSl recordO w2 v (xs.set i ⟨xs[i].source, xs[i].key, xs[i].version, zs⟩) F := by
  obtain ⟨g, off, cap, c, F1, rfl, hg, hsub, hng, hN1, ⟨m, rfl, hI, hm⟩, _, hc, hf, hin, hst⟩ := h.elem hN hi
  have h1 : recordO.n = 4 := rfl
  rw [h1] at hc hst
  have hmk : ∀ o u, OwnSl strO (w.setCell ⟨g, o, none⟩ u) m xs[i].fields F1 := fun o u => hm.keep fun b hb => keep_setCell fun e => hng (by have e2 : b = g := e; exact e2 ▸ hb)
  refine ⟨g, off, cap, m, F1, rfl, hg, hf, ⟨by (have := hc 0 (by omega)); rw [Nat.add_zero] at this; exact this, hc 1 (by omega), hc 2 (by omega), hc 3 (by omega)⟩, fun u hu => ?_, fun u hu => ?_, fun u hu => ?_, hsub, hN1, hm, fun w2 zs hk hz => ?_⟩
  · have := hst 0 (.int .i64 u) ⟨u, xs[i].key, xs[i].version, xs[i].fields⟩ (by omega) ⟨m, rfl, ⟨hu, hI.2⟩, hmk _ _⟩
    simpa using this
  · exact hst 1 (.int .i64 u) ⟨xs[i].source, u, xs[i].version, xs[i].fields⟩ (by omega) ⟨m, rfl, ⟨hI.1, hu, hI.2.2⟩, hmk _ _⟩
  · exact hst 2 (.int .i64 u) ⟨xs[i].source, xs[i].key, u, xs[i].fields⟩ (by omega) ⟨m, rfl, ⟨hI.1, hI.2.1, hu⟩, hmk _ _⟩
  · exact hin w2 ⟨xs[i].source, xs[i].key, xs[i].version, zs⟩ hk ⟨m, rfl, hI, hz⟩

theorem rec_three {W : World} {v : Value} {ys : List Record} {F : List Nat} {j : Nat} {K : Int} (ho : OwnSl recordO W v ys F) (hN : F.Nodup) (hjy : j < ys.length) (hK0 : 0 ≤ K) (hK1 : K ≤ 1152921504606846976) :
    ∃ g off cap m F3, v = .slice (some ⟨g, off, none⟩) ys.length cap ∧ g ∈ F ∧ (∀ o, W.frozen? ⟨g, o, none⟩ = false) ∧
      (W.cell? ⟨g, off + j * 4, none⟩ = some (.int .i64 ys[j].source) ∧ W.cell? ⟨g, off + j * 4 + 1, none⟩ = some (.int .i64 ys[j].key) ∧ W.cell? ⟨g, off + j * 4 + 2, none⟩ = some (.int .i64 ys[j].version) ∧ W.cell? ⟨g, off + j * 4 + 3, none⟩ = some m) ∧
      (∀ b ∈ F3, b ∈ F) ∧ F3.Nodup ∧ OwnSl strO (((W.setCell ⟨g, off + j * 4, none⟩ (.int .i64 K)).setCell ⟨g, off + j * 4 + 1, none⟩ (.int .i64 (K + 1))).setCell ⟨g, off + j * 4 + 2, none⟩ (.int .i64 (K + 1 + 1))) m ys[j].fields F3 ∧
      ∀ w2 zs, (∀ b ∈ F, b ∉ F3 → w2.heap[b]? = (((W.setCell ⟨g, off + j * 4, none⟩ (.int .i64 K)).setCell ⟨g, off + j * 4 + 1, none⟩ (.int .i64 (K + 1))).setCell ⟨g, off + j * 4 + 2, none⟩ (.int .i64 (K + 1 + 1))).heap[b]?) → OwnSl strO w2 m zs F3 → OwnSl recordO w2 v (ys.set j ⟨K, K + 1, K + 1 + 1, zs⟩) F := by
  obtain ⟨g, off, cap2, m, F1, rfl, hg, hfr, hcs, s0, _, _, _, _, _, _⟩ := ho.rec_at hN hjy
  have c3 := hcs.2.2.2
  have o1 := s0 K (by unfold I64; omega)
  have hy1 : j < (ys.set j ⟨K, ys[j].key, ys[j].version, ys[j].fields⟩).length := by rw [List.length_set]; exact hjy
  obtain ⟨g1, off1, cap1, m1, _, e, _, _, ⟨_, _, _, _⟩, _, s1, _, _, _, _, _⟩ := o1.rec_at hN hy1
  injection e with e1 e2 e3
  injection e1 with e1
  injection e1 with e1 e4 _
  subst e1; subst e4
  clear e2 e3
  have o2 := s1 (K + 1) (by unfold I64; omega)
  simp only [List.getElem_set_self, List.set_set] at o2
  have hy2 : j < (ys.set j ⟨K, K + 1, ys[j].version, ys[j].fields⟩).length := by rw [List.length_set]; exact hjy
  obtain ⟨g1, off1, cap1, m2, _, e, _, _, ⟨_, _, _, _⟩, _, _, s2, _, _, _, _⟩ := o2.rec_at hN hy2
  injection e with e1 e2 e3
  injection e1 with e1
  injection e1 with e1 e4 _
  subst e1; subst e4
  clear e2 e3
  have o3 := s2 (K + 1 + 1) (by unfold I64; omega)
  simp only [List.getElem_set_self, List.set_set] at o3
  have hy3 : j < (ys.set j ⟨K, K + 1, K + 1 + 1, ys[j].fields⟩).length := by rw [List.length_set]; exact hjy
  obtain ⟨g1, off1, cap1, m3, F3, e, _, _, ⟨_, _, _, c3'⟩, _, _, _, hsub, hN3, hm3, hin⟩ := o3.rec_at hN hy3
  injection e with e1 e2 e3
  injection e1 with e1
  injection e1 with e1 e4 _
  subst e1; subst e4
  clear e2 e3
  simp only [List.getElem_set_self, List.set_set] at hm3 hin
  have q2 := World.cell?_setCell_other (w := (W.setCell ⟨g, off + j * 4, none⟩ (.int .i64 K)).setCell ⟨g, off + j * 4 + 1, none⟩ (.int .i64 (K + 1))) (v := .int .i64 (K + 1 + 1)) (a := ⟨g, off + j * 4 + 2, none⟩) (b := ⟨g, off + j * 4 + 3, none⟩) (fun e => by injection e with _ e _; omega)
  have q1 := World.cell?_setCell_other (w := W.setCell ⟨g, off + j * 4, none⟩ (.int .i64 K)) (v := .int .i64 (K + 1)) (a := ⟨g, off + j * 4 + 1, none⟩) (b := ⟨g, off + j * 4 + 3, none⟩) (fun e => by injection e with _ e _; omega)
  have q0 := World.cell?_setCell_other (w := W) (v := .int .i64 K) (a := ⟨g, off + j * 4, none⟩) (b := ⟨g, off + j * 4 + 3, none⟩) (fun e => by injection e with _ e _; omega)
  have hmm : m3 = m := Option.some.inj (c3'.symm.trans (q2.trans (q1.trans (q0.trans c3))))
  subst m3
  exact ⟨g, off, cap2, m, F3, rfl, hg, hfr, hcs, hsub, hN3, hm3, hin⟩

set_option maxHeartbeats 400000 in
set_option maxRecDepth 20000 in
theorem markRecordS_c (v : Value) (xs : List Record) (F : List Nat) (k : Int) (w : World) (h : OwnSl recordO w v xs F) (hN : F.Nodup) (h0 : 0 ≤ k) (hb : k + (recSum xs : Nat) ≤ 1152921504606846976) :
    Calls Tryz.prog 59 #[v, .int .i64 k] w fun e w2 => ∃ K, e = .returned (.int .i64 K) ∧ (0 ≤ K ∧ K ≤ k + (recSum xs : Nat)) ∧ Chg F w w2 := by
  obtain ⟨A, cap, rfl, hm⟩ := h.form
  go_enter Tryz.func59, Tryz.ntmps59
  go_wp2
  go_loopw [1, 5] (fun l i wr => ∃ (j : Nat) (K : Int) (ys : List Record), j ≤ xs.length ∧ i = .int .i64 j ∧ l = .int .i64 K ∧ 0 ≤ K ∧ K + (recSum (ys.drop j) : Nat) ≤ k + (recSum xs : Nat) ∧ OwnSl recordO wr (.slice A xs.length cap) ys F ∧ Hid (ys.length = xs.length) ∧ Chg F w wr) (fun _ i _ => xs.length - (intOf i).toNat)
  case atStart => exact ⟨0, k, xs, Nat.zero_le _, rfl, rfl, h0, Int.le_refl _, h, hid rfl, .refl _ _⟩
  case round =>
    obtain ⟨j, K, ys, hj, rfl, rfl, hK0, hK1, ho, hy, hc⟩ := hrel
    by_cases hlt : j < xs.length
    · have hjy : j < ys.length := by rw [hy.out]; exact hlt
      have hd : recSum (ys.drop j) = 3 + ys[j].fields.length + recSum (ys.drop (j + 1)) := by
        unfold recSum; rw [List.drop_eq_getElem_cons hjy, List.map_cons, List.sum_cons]
      rw [hd] at hK1
      clear hd
      obtain ⟨g, off, cap2, m, F3, e, hg, hfr, ⟨c0, c1, c2, c3⟩, hsub, hN3, hm3, hin⟩ := rec_three (K := K) ho hN hjy hK0 (by omega)
      injection e with e1 e2 e3
      subst e1
      clear e2 e3
      obtain ⟨W3, hW3⟩ : ∃ W3, W3 = ((wr.setCell ⟨g, off + j * 4, none⟩ (.int .i64 K)).setCell ⟨g, off + j * 4 + 1, none⟩ (.int .i64 (K + 1))).setCell ⟨g, off + j * 4 + 2, none⟩ (.int .i64 (K + 1 + 1)) := ⟨_, rfl⟩
      rw [← hW3] at hm3 hin
      have hc3 : Chg F w W3 := by rw [hW3]; exact ((hc.setCell hg _).setCell hg _).setCell hg _
      have hlt3 : ∀ b ∈ F, b < W3.heap.size := fun b hb => by rw [hW3]; simp only [World.size_setCell]; exact ho.lt b hb
      obtain ⟨A3, cap3, e3, _⟩ := hm3.form
      subst e3
      have HIN := hid hin
      have HW := hid hW3
      have HHY := hid hy
      clear hin hW3
      go_wp2_with fail
      rw [← HW.out]
      refine (markStringS_t _ ys[j].fields F3 _ _ hm3 hN3 (by omega) (by omega)).mono ?_
      rintro e w2 ⟨zs, rfl, hz, hzl, _, hzc⟩
      have o4 := HIN.out w2 zs (fun b hb hn => hzc.block b (hlt3 b hb) hn) hz
      have hc4 := hc3.trans (hzc.mono hsub)
      have HL : recSum ((ys.set j ⟨K, K + 1, K + 1 + 1, zs⟩).drop (j + 1)) = recSum (ys.drop (j + 1)) := by rw [List.drop_set_of_lt (by omega)]
      have HL2 := hid HL
      clear HL
      go_wp2
      go_roundw
      case rel => exact ⟨j + 1, _, _, by omega, by go_num, rfl, by omega, by rw [HL2.out]; omega, o4, hid (by rw [List.length_set]; exact hy.out), hc4⟩
      case measure => simp [intOf]; omega
    · go_wp2
      go_ret
      exact ⟨K, rfl, ⟨hK0, by omega⟩, hc⟩
end Go.Proofs.YtfcbapaojoecgaaGreat

namespace Go.Proofs.YtfcbapaojoecgaaGreat
open Go.RowKit

theorem cmpI_anti (a b : Int) : cmpI b a = -cmpI a b := by unfold cmpI; split <;> split <;> (try split) <;> (try split) <;> omega
theorem bless_asym : ∀ {x y : List UInt8}, Op.bytesLess x y = true → Op.bytesLess y x = false
  | [], [], h => by simp [Op.bytesLess] at h
  | _ :: _, [], h => by simp [Op.bytesLess] at h
  | [], _ :: _, _ => by simp [Op.bytesLess]
  | a :: x, b :: y, h => by
    have ih := @bless_asym x y
    simp only [Op.bytesLess, Bool.or_eq_true, Bool.and_eq_true, decide_eq_true_eq, beq_iff_eq] at h
    simp only [Op.bytesLess, Bool.or_eq_false_iff, Bool.and_eq_false_iff, decide_eq_false_iff_not, beq_eq_false_iff_ne]
    rcases h with h | ⟨h, h2⟩
    · have h' := UInt8.lt_iff_toNat_lt.1 h
      exact ⟨fun k => by have := UInt8.lt_iff_toNat_lt.1 k; omega, .inl fun e => by rw [e] at h'; omega⟩
    · subst h
      exact ⟨fun k => by have := UInt8.lt_iff_toNat_lt.1 k; omega, .inr (ih h2)⟩
theorem bless_tri : ∀ {x y : List UInt8}, Op.bytesLess x y = false → ¬ x = y → Op.bytesLess y x = true
  | [], [], _, h => absurd rfl h
  | _ :: _, [], _, _ => by simp [Op.bytesLess]
  | [], _ :: _, h, _ => by simp [Op.bytesLess] at h
  | a :: x, b :: y, h, hn => by
    have ih := @bless_tri x y
    simp only [Op.bytesLess, Bool.or_eq_false_iff, Bool.and_eq_false_iff, decide_eq_false_iff_not, beq_eq_false_iff_ne] at h
    simp only [Op.bytesLess, Bool.or_eq_true, Bool.and_eq_true, decide_eq_true_eq, beq_iff_eq]
    by_cases e : a = b
    · subst e
      refine .inr ⟨rfl, ih ?_ fun e => hn (by rw [e])⟩
      rcases h.2 with h2 | h2
      · exact absurd rfl h2
      · exact h2
    · refine .inl (UInt8.lt_iff_toNat_lt.2 ?_)
      have h1 : ¬ a.toNat < b.toNat := fun k => h.1 (UInt8.lt_iff_toNat_lt.2 k)
      have h2 : ¬ a.toNat = b.toNat := fun k => e (UInt8.toNat_inj.1 k)
      omega
theorem toList_inj2 {a b : ByteArray} (h : a.toList = b.toList) : a = b := toList_inj (by simp [h])
theorem cmpS_anti (a b : ByteArray) : cmpS b a = -cmpS a b := by
  by_cases e : a = b
  · subst e; rw [cmpS_zero.2 rfl]; rfl
  · have hn : ¬ a.toList = b.toList := fun k => e (toList_inj2 k)
    cases h : Op.bytesLess a.toList b.toList with
    | true =>
      rw [cmpS_lt h, cmpS_gt (bless_asym h) (by rw [beq_eq_false_iff_ne]; exact fun k => hn k.symm)]; rfl
    | false => rw [cmpS_gt h (by rw [beq_eq_false_iff_ne]; exact hn), cmpS_lt (bless_tri h hn)]
theorem cmpSL_anti : ∀ xs ys : List ByteArray, cmpSL ys xs = -cmpSL xs ys
  | [], [] => rfl
  | [], _ :: _ => rfl
  | _ :: _, [] => rfl
  | x :: xs, y :: ys => by
    rw [cmpSL, cmpSL, cmpS_anti x y, cmpSL_anti xs ys]
    by_cases h : cmpS x y = 0
    · rw [if_pos h, if_pos (by omega)]
    · rw [if_neg h, if_neg (by omega)]
theorem firstNZ_anti (l : List Int) : firstNZ (l.map fun x => -x) = -firstNZ l := by
  induction l with
  | nil => rfl
  | cons a l ih =>
    rw [List.map_cons, firstNZ_cons, firstNZ_cons, ih]
    by_cases h : a = 0
    · rw [if_pos h, if_pos (by omega)]
    · rw [if_neg h, if_neg (by omega)]
theorem cmpO_anti (x y : Record) : cmpO y x = -cmpO x y := by
  unfold cmpO
  rw [← firstNZ_anti, cmpI_anti x.source, cmpI_anti x.key]; rfl
theorem cmpR_anti (x y : Record) : cmpR y x = -cmpR x y := by
  unfold cmpR
  rw [← firstNZ_anti, cmpO_anti x y, cmpI_anti x.version, cmpSL_anti x.fields]; rfl
end Go.Proofs.YtfcbapaojoecgaaGreat
