/-
  An entity: how it lies; WALKS: szEntity, szEntityS, toEntity, toEntityS, eqEntity, eqEntityS.
-/
import Derived.Test.YtfcbapaojoecgabMgEndFnId0

namespace Go.Proofs.Ytfcbapaojoecgab
open Go.RowKit

theorem list2 {cs : List Value} (h : cs.length = 2) {a b : Value} (ha : (cs.drop 0).take 1 = [a]) (hb : (cs.drop 1).take 1 = [b]) : cs = [a, b] := by
  match cs, h with
  | [x, y], _ => simp_all
structure Entity where
  id : Int
  members : List Int
def entityR : Rep Entity := ⟨2, fun w cs e => ∃ m, cs = [.int .i64 e.id, m] ∧ I64 e.id ∧ Sl intR w m e.members, fun ⟨_, h, _⟩ => by rw [h]; rfl, fun x ⟨m, h, k, s⟩ => ⟨m, h, k, s.mono x⟩⟩
def entityO : RepO Entity :=
  { entityR with
    own := fun w cs e F => ∃ m, cs = [.int .i64 e.id, m] ∧ I64 e.id ∧ OwnSl intO w m e.members F
    own_rd := fun ⟨m, h, k, s⟩ => ⟨m, h, k, s.sl⟩
    own_lt := fun ⟨_, _, _, s⟩ => s.lt
    own_keep := fun hk ⟨m, h, k, s⟩ => ⟨m, h, k, s.keep hk⟩ }
/-- the value v is the entity e -/
def EntAt (w : World) (v : Value) (e : Entity) : Prop := ∃ m, v = .agg #[.int .i64 e.id, m] ∧ I64 e.id ∧ Sl intR w m e.members
def EntOwn (w : World) (v : Value) (e : Entity) (F : List Nat) : Prop := ∃ m, v = .agg #[.int .i64 e.id, m] ∧ I64 e.id ∧ OwnSl intO w m e.members F
theorem EntAt.mono {w w2 : World} {v : Value} {e : Entity} (x : Ext w w2) (h : EntAt w v e) : EntAt w2 v e := let ⟨f, a, b, c⟩ := h; ⟨f, a, b, c.mono x⟩
theorem EntOwn.at_ {w : World} {v : Value} {e : Entity} {F : List Nat} (h : EntOwn w v e F) : EntAt w v e := let ⟨f, a, b, c⟩ := h; ⟨f, a, b, c.sl⟩
theorem EntOwn.lt {w : World} {v : Value} {e : Entity} {F : List Nat} (h : EntOwn w v e F) : ∀ b ∈ F, b < w.heap.size := let ⟨_, _, _, c⟩ := h; c.lt
theorem EntOwn.keep {w w2 : World} {v : Value} {e : Entity} {F : List Nat} (h : EntOwn w v e F) (k : ∀ b ∈ F, w2.heap[b]? = w.heap[b]?) : EntOwn w2 v e F := let ⟨f, a, b, c⟩ := h; ⟨f, a, b, c.keep k⟩
theorem EntOwn.ext {w w2 : World} {v : Value} {e : Entity} {F : List Nat} (h : EntOwn w v e F) (x : Ext w w2) : EntOwn w2 v e F := h.keep fun b hb => x.block (h.lt b hb)
theorem Sl.ent {w : World} {A : Option Addr} {n cap : Nat} {xs : List Entity} (h : Sl entityR w (.slice A n cap) xs) {i : Nat} (hi : i < xs.length) :
    ∃ b off A2 cap2, A = some ⟨b, off, none⟩ ∧ I64 xs[i].id ∧ Sl intR w (.slice A2 xs[i].members.length cap2) xs[i].members ∧ w.cell? ⟨b, off + i * 2, none⟩ = some (.int .i64 xs[i].id) ∧
      w.cell? ⟨b, off + i * 2 + 1, none⟩ = some (.slice A2 xs[i].members.length cap2) := by
  obtain ⟨b, off, cs, rfl, ⟨m, rfl, hI, hs⟩, hc⟩ := h.at_ hi
  have hs' := hs
  obtain ⟨A2, cap2, rfl, _⟩ := hs
  exact ⟨b, off, A2, cap2, rfl, hI, hs', by simpa [entityR] using hc 0 (by simp [entityR]), by simpa [entityR] using hc 1 (by simp [entityR])⟩
def sumMem (xs : List Entity) : Nat := (xs.map fun e => e.members.length).sum
theorem sumMem_take (xs : List Entity) (k : Nat) (h : k < xs.length) : sumMem (xs.take (k + 1)) = sumMem (xs.take k) + xs[k].members.length := by
  rw [List.take_succ_eq_append_getElem h]; unfold sumMem; rw [List.map_append, List.sum_append]; simp
theorem sumMem_le (xs : List Entity) (k : Nat) : sumMem (xs.take k) ≤ sumMem xs := by
  have h := List.take_append_drop k xs
  have : sumMem xs = sumMem (xs.take k) + sumMem (xs.drop k) := by
    unfold sumMem; rw [← List.sum_append, ← List.map_append, h]
  omega
theorem sumMem_at (xs : List Entity) (k : Nat) (h : k < xs.length) : sumMem (xs.take k) + xs[k].members.length ≤ sumMem xs := by
  rw [← sumMem_take xs k h]; exact sumMem_le _ _
def msEnts (xs : List Entity) : Nat := xs.length + sumMem xs

set_option maxHeartbeats 400000 in
theorem szEntity_c (v : Value) (e : Entity) (left : Int) (w : World) (h : EntAt w v e) (h0 : 0 ≤ left) (h1 : left ≤ 1048576) :
    Calls Try.prog 26 #[v, .int .i64 left] w fun e2 w2 => e2 = .returned (.int .i64 (szv ((e.members.length : Nat) : Int) left)) ∧ Ext w w2 := by
  obtain ⟨m, rfl, hI, hs⟩ := h
  go_enter Try.func26, Try.ntmps26
  go_wp2_with fail
  refine (szIntS_c _ e.members _ _ (hs.mono ((Ext.refl _).alloc _)) h0 h1).mono ?_
  rintro e2 w2 ⟨rfl, rfl⟩
  by_cases hs9 : left < ((e.members.length : Nat) : Int)
  · have HS := hid hs9
    rw [szv_neg hs9]
    clear hs9
    go_wp2
    go_ret
    exact ⟨ret_int (szv_neg HS.out).symm, (by repeat (first | with_reducible exact Ext.refl _ | with_reducible assumption | with_reducible refine Ext.drew ?_ | with_reducible refine Ext.alloc ?_ _ | with_reducible refine Ext.trans ?_ (by with_reducible assumption)))⟩
  · have hs0 := szv_nn hs9
    have hs1 := szv_le (n := ((e.members.length : Nat) : Int)) (left := left) (by omega) (by omega)
    obtain ⟨L, hL⟩ : ∃ L, L = szv ((e.members.length : Nat) : Int) left := ⟨_, rfl⟩
    rw [← hL] at hs0 hs1 ⊢
    have HL := hid hL
    clear hL
    have HS := hid hs9
    clear hs9
    go_wp2
    go_ret
    exact ⟨ret_int HL.out, (by repeat (first | with_reducible exact Ext.refl _ | with_reducible assumption | with_reducible refine Ext.drew ?_ | with_reducible refine Ext.alloc ?_ _ | with_reducible refine Ext.trans ?_ (by with_reducible assumption)))⟩

set_option maxHeartbeats 400000 in
theorem szEntityS_c (v : Value) (xs : List Entity) (left : Int) (w : World) (h : Sl entityR w v xs) (h0 : 0 ≤ left) (h1 : left ≤ 1048576) :
    Calls Try.prog 6 #[v, .int .i64 left] w fun e w2 => e = .returned (.int .i64 (szv ((msEnts xs : Nat) : Int) left)) ∧ Ext w w2 := by
  obtain ⟨A, cap, rfl, hm⟩ := h.form
  unfold msEnts
  by_cases hlt : left < xs.length
  · go_enter Try.func6, Try.ntmps6
    go_wp2
    go_ret
    exact ⟨ret_int (by symm; unfold szv; rw [if_pos (by omega)]), Ext.refl _⟩
  · go_enter Try.func6, Try.ntmps6
    go_wp2
    go_loopw [1, 5] (fun l i wr => ∃ k : Nat, k ≤ xs.length ∧ i = .int .i64 k ∧ sumMem (xs.take k) + xs.length ≤ left ∧ l = .int .i64 (left - xs.length - (sumMem (xs.take k) : Nat)) ∧ Ext w wr) (fun _ i _ => xs.length - (intOf i).toNat)
    case atStart => exact ⟨0, Nat.zero_le _, rfl, by simp [sumMem]; omega, by simp [sumMem], Ext.refl _⟩
    case round =>
      obtain ⟨k, hk, rfl, hs, rfl, hx⟩ := hrel
      by_cases hlk : k < xs.length
      · obtain ⟨b, off, A2, cap2, rfl, hI, hsl, hc0, hc1⟩ := (h.mono hx).ent hlk
        have hst := sumMem_take xs k hlk
        have hsa := sumMem_at xs k hlk
        have HS := hid hst
        clear hst
        go_wp2_with fail
        refine (szEntity_c _ xs[k] _ _ ⟨_, rfl, hI, hsl⟩ (by omega) (by omega)).mono ?_
        rintro e w2 ⟨rfl, x2⟩
        by_cases hfit : left - xs.length - (sumMem (xs.take k) : Nat) < xs[k].members.length
        · rw [show szv (xs[k].members.length : Int) (left - xs.length - (sumMem (xs.take k) : Nat)) = -1 by simp [szv, hfit]]
          go_wp2
          go_ret
          exact ⟨ret_int (by symm; unfold szv; rw [if_pos (by omega)]), hx.trans x2⟩
        · rw [show szv (xs[k].members.length : Int) (left - xs.length - (sumMem (xs.take k) : Nat)) = left - xs.length - (sumMem (xs.take k) : Nat) - xs[k].members.length by simp [szv, hfit]]
          go_wp2
          go_roundw
          case rel => exact ⟨k + 1, by omega, by go_num, by rw [HS.out]; omega, by rw [HS.out]; congr 1; omega, hx.trans x2⟩
          case measure => simp [intOf]; omega
      · go_wp2
        go_ret
        rw [List.take_of_length_le (by omega)] at hs
        exact ⟨ret_int (by rw [List.take_of_length_le (by omega)]; unfold szv; rw [if_neg (by omega)]; omega), hx⟩

set_option maxHeartbeats 400000 in
theorem toEntity_c (v : Value) (r : Entity) (w : World) (h : EntAt w v r) (hb : r.members.length ≤ 1048576) :
    Calls Try.prog 35 #[v] w fun e w2 => ∃ v2 F, e = .returned v2 ∧ EntOwn w2 v2 r F ∧ NewF w F ∧ Ext w w2 := by
  obtain ⟨m, rfl, hI, hs⟩ := h
  go_enter Try.func35, Try.ntmps35
  go_wp2_with fail
  refine (toIntS_c _ r.members _ (hs.mono (by repeat (first | with_reducible exact Ext.refl _ | with_reducible assumption | with_reducible refine Ext.drew ?_ | with_reducible refine Ext.alloc ?_ _ | with_reducible refine Ext.trans ?_ (by with_reducible assumption)))) hb).mono ?_
  rintro e w2 ⟨v2, F, rfl, ho, hn, x2⟩
  obtain ⟨A2, cap2, e2, _⟩ := ho.form
  subst e2
  obtain ⟨c2, f2⟩ := x2.box2
  obtain ⟨c1, f1⟩ := (((Ext.refl _).alloc _).trans x2).box1
  have hlt : ∀ b ∈ F, w.heap.size + 1 + 1 < b := fun b hb => by have := hn.2 b hb; simp at this; omega
  go_wp2
  refine bodyPost_ret (v := .agg #[.int .i64 r.id, .slice A2 r.members.length cap2]) (by simp [results, Try.results35, go_sem, c1, f1]) rfl ?_
  have e9 := hn.ext (w := w) (by repeat (first | with_reducible exact Ext.refl _ | with_reducible assumption | with_reducible refine Ext.drew ?_ | with_reducible refine Ext.alloc ?_ _ | with_reducible refine Ext.trans ?_ (by with_reducible assumption)))
  have x9 : Ext w w2 := (by repeat (first | with_reducible exact Ext.refl _ | with_reducible assumption | with_reducible refine Ext.drew ?_ | with_reducible refine Ext.alloc ?_ _ | with_reducible refine Ext.trans ?_ (by with_reducible assumption)))
  clear hn x2 c1 f1 c2 f2
  refine ⟨_, F, rfl, ⟨_, rfl, hI, ?_⟩, e9, ?_⟩
  · repeat (first | with_reducible exact ho | (refine OwnSl.setCell ?_ (fun h9 => by have := hlt _ h9; simp only at this; omega) _))
  · repeat (refine Ext.setCell ?_ (by simp; try omega) _)
    exact x9

theorem infoEnt : (Try.prog.info? 42).map (fun i => (i.zero, i.size, i.bytes)) = some (some (.agg #[.int .i64 0, .slice none 0 0]), 2, 32) := by kernel_rfl

def entZ : List Value := [.int .i64 0, .slice none 0 0]
set_option maxHeartbeats 400000 in
theorem toEntityS_c (v : Value) (xs : List Entity) (w : World) (h : Sl entityR w v xs) (hb : msEnts xs ≤ 1048576) :
    Calls Try.prog 9 #[v] w fun e w2 => ∃ v2 F, e = .returned v2 ∧ OwnSl entityO w2 v2 xs F ∧ NewF w F ∧ Ext w w2 := by
  obtain ⟨A, cap, rfl, hm⟩ := h.form
  unfold msEnts at hb
  obtain ⟨i0, hi0, hz0, hz1, hz2⟩ := info_parts infoEnt
  have hmk := run_mk (P := Try.prog) 26 42 i0 _ entZ 32 Try.underlying26 hi0 hz0 rfl hz1 hz2 xs.length (by omega) hm
  go_enter Try.func9, Try.ntmps9
  go_wp2
  go_loopw [4] (fun i wr => ∃ (k : Nat) (done : List Value) (F : List Nat), k ≤ xs.length ∧ i = .int .i64 k ∧ Blk wr w.heap.size 42 (done ++ (List.replicate (xs.length - k) entZ).flatten) ∧
    OwnCells entityO wr done (xs.take k) F ∧ FromF w.heap.size F ∧ Ext w wr) (fun i _ => xs.length - (intOf i).toNat)
  case atStart => exact ⟨0, [], [], Nat.zero_le _, rfl, by simpa using Blk.new w 42 (List.replicate xs.length entZ).flatten.toArray, .nil, .nil _, (Ext.refl _).alloc _⟩
  case round =>
    obtain ⟨k, done, F, hk, rfl, hblk, hown, hF, hx⟩ := hrel
    by_cases hlt : k < xs.length
    · obtain ⟨b, off, A2, cap2, rfl, hI, hsl, hc0, hc1⟩ := (h.mono hx).ent hlt
      have hz : (List.replicate (xs.length - k) entZ).flatten = .int .i64 0 :: .slice none 0 0 :: (List.replicate (xs.length - (k + 1)) entZ).flatten := by
        rw [show xs.length - k = (xs.length - (k + 1)) + 1 by omega, List.replicate_succ]; rfl
      rw [hz] at hblk
      clear hz
      have hl : done.length = k * 2 := by rw [hown.length]; simp [entityO, entityR]; omega
      have hgl := block_lt hblk.out
      have HL := hid hl
      clear hl
      go_wp2_with fail
      refine (toEntity_c _ xs[k] _ ⟨_, rfl, hI, hsl⟩ (by have := sumMem_at xs k hlt; omega)).mono ?_
      rintro e w2 ⟨v2, F2, rfl, ⟨m2, rfl, _, ho⟩, hn, x2⟩
      have hblk2 := hblk.ext x2
      obtain ⟨A3, cap3, e3, _⟩ := ho.form
      subst e3
      obtain ⟨hcell, hfr⟩ := hblk2.at_ HL.out
      have hblk3 := hblk2.store HL.out (.int .i64 xs[k].id)
      have hl3 : (done ++ [Value.int .i64 xs[k].id]).length = k * 2 + 1 := by rw [List.length_append, HL.out]; rfl
      obtain ⟨hcell3, hfr3⟩ := hblk3.at_ hl3
      have hst := hblk3.store hl3 (.slice A3 xs[k].members.length cap3)
      have hk2 : ∀ b, b ≠ w.heap.size → ((w2.setCell ⟨w.heap.size, k * 2, none⟩ (.int .i64 xs[k].id)).setCell ⟨w.heap.size, k * 2 + 1, none⟩ (.slice A3 xs[k].members.length cap3)).heap[b]? = w2.heap[b]? :=
        fun b hb => (keep_setCell hb).trans (keep_setCell hb)
      obtain ⟨ho3, hF3⟩ := hown.step (R := entityO) hF x2 ⟨_, rfl, hI, ho⟩ hn hgl hk2
      have HK := hid (And.intro ho3 hF3)
      have HST := hid hst
      clear hblk hblk2 hblk3 HL hl3 hst hk2 ho3 hF3
      go_wp2
      go_roundw
      case rel => exact ⟨k + 1, done ++ [.int .i64 xs[k].id, .slice A3 xs[k].members.length cap3], _, by omega, by go_num, by simpa using HST.out, by rw [List.take_succ_eq_append_getElem hlt]; simpa using HK.out.1, HK.out.2, ((hx.trans x2).setCell (by simp) _).setCell (by simp) _⟩
      case measure => simp [intOf]; omega
    · go_wp2
      go_ret
      rw [show xs.length - k = 0 by omega, List.replicate_zero, List.flatten_nil, List.append_nil] at hblk
      rw [List.take_of_length_le (by omega)] at hown
      exact ⟨_, _, rfl, OwnSl.of_blk hblk (by unfold maxLen; omega) hown, hF.new rfl, hx⟩

theorem Entity.ext_iff2 (x y : Entity) : x = y ↔ x.id = y.id ∧ x.members = y.members := by
  cases x; cases y; simp
set_option maxHeartbeats 400000 in
theorem eqEntity_c (v u : Value) (x y : Entity) (w : World) (h : EntAt w v x) (k : EntAt w u y) :
    Calls Try.prog 49 #[v, u] w fun e w2 => e = .returned (.bool (eqB x y)) ∧ Ext w w2 := by
  obtain ⟨f, rfl, hok, hs⟩ := h
  obtain ⟨g, rfl, hok2, hs2⟩ := k
  by_cases h1 : x.id = y.id
  · have b1 : (x.id != y.id) = false := by simp [h1]
    have H := hid h1
    clear h1
    go_enter Try.func49, Try.ntmps49
    go_wp2_with fail
    refine (eqIntS_c _ _ x.members y.members _ (hs.mono (by repeat (first | with_reducible exact Ext.refl _ | with_reducible assumption | with_reducible refine Ext.drew ?_ | with_reducible refine Ext.alloc ?_ _ | with_reducible refine Ext.trans ?_ (by with_reducible assumption)))) (hs2.mono (by repeat (first | with_reducible exact Ext.refl _ | with_reducible assumption | with_reducible refine Ext.drew ?_ | with_reducible refine Ext.alloc ?_ _ | with_reducible refine Ext.trans ?_ (by with_reducible assumption))))).mono ?_
    rintro e w2 ⟨rfl, x2⟩
    by_cases h4 : x.members = y.members
    · rw [eqB_true h4]
      have H4 := hid h4
      clear h4
      go_wp2
      go_ret
      exact ⟨ret_bool (eqB_true ((Entity.ext_iff2 x y).2 ⟨H.out, H4.out⟩)).symm, (by repeat (first | with_reducible exact Ext.refl _ | with_reducible assumption | with_reducible refine Ext.drew ?_ | with_reducible refine Ext.alloc ?_ _ | with_reducible refine Ext.trans ?_ (by with_reducible assumption)))⟩
    · rw [eqB_false h4]
      have H4 := hid h4
      clear h4
      go_wp2
      go_ret
      exact ⟨ret_bool (eqB_false fun e => H4.out (by rw [e])).symm, (by repeat (first | with_reducible exact Ext.refl _ | with_reducible assumption | with_reducible refine Ext.drew ?_ | with_reducible refine Ext.alloc ?_ _ | with_reducible refine Ext.trans ?_ (by with_reducible assumption)))⟩
  · have b1 : (x.id != y.id) = true := by simp [h1]
    have H := hid h1
    clear h1
    go_enter Try.func49, Try.ntmps49
    go_wp2
    go_ret
    exact ⟨ret_bool (eqB_false fun e => H.out (by rw [e])).symm, (by repeat (first | with_reducible exact Ext.refl _ | with_reducible assumption | with_reducible refine Ext.drew ?_ | with_reducible refine Ext.alloc ?_ _ | with_reducible refine Ext.trans ?_ (by with_reducible assumption)))⟩

set_option maxHeartbeats 400000 in
theorem eqEntityS_c (v u : Value) (xs ys : List Entity) (w : World) (h : Sl entityR w v xs) (k : Sl entityR w u ys) :
    Calls Try.prog 12 #[v, u] w fun e w2 => e = .returned (.bool (eqB xs ys)) ∧ Ext w w2 := by
  obtain ⟨A, cap, rfl, hm⟩ := h.form
  obtain ⟨B, cap2, rfl, hm2⟩ := k.form
  by_cases hl : xs.length = ys.length
  · have hl' : ((xs.length : Int) != (ys.length : Int)) = false := by simp [hl]
    have HL := hid hl
    clear hl
    go_enter Try.func12, Try.ntmps12
    go_wp2
    go_loopw [5] (fun i wr => ∃ k2 : Nat, k2 ≤ xs.length ∧ i = .int .i64 k2 ∧ xs.take k2 = ys.take k2 ∧ Ext w wr) (fun i _ => xs.length - (intOf i).toNat)
    case atStart => exact ⟨0, Nat.zero_le _, rfl, by simp, Ext.refl _⟩
    case round =>
      obtain ⟨k2, hk, rfl, he, hx⟩ := hrel
      have HE := hid he
      clear he
      by_cases hlt : k2 < xs.length
      · have hlt2 : k2 < ys.length := by have := HL.out; omega
        obtain ⟨b, off, A2, cap3, rfl, hI, hi, hc, hd⟩ := (h.mono hx).ent hlt
        obtain ⟨b2, off2, A3, cap4, rfl, hI2, hi2, hc2, hd2⟩ := (k.mono hx).ent hlt2
        have hcz : ∀ z : ExtOf wr, z.1.cell? ⟨b, off + k2 * 2, none⟩ = _ := fun z => z.2.cell hc
        have hcz2 : ∀ z : ExtOf wr, z.1.cell? ⟨b2, off2 + k2 * 2, none⟩ = _ := fun z => z.2.cell hc2
        have hdz : ∀ z : ExtOf wr, z.1.cell? ⟨b, off + k2 * 2 + 1, none⟩ = _ := fun z => z.2.cell hd
        have hdz2 : ∀ z : ExtOf wr, z.1.cell? ⟨b2, off2 + k2 * 2 + 1, none⟩ = _ := fun z => z.2.cell hd2
        by_cases h0 : xs[k2] = ys[k2]
        · have H0 := hid h0
          clear h0
          go_wp2_with fail
          refine wp_region_ext (by kernel_rfl) (by kernel_rfl) ?_
          repeat (go_big_quiet_step (((go_at_call 49; exact quiet_ext (eqEntity_c _ _ _ _ _ ⟨_, rfl, hI, hi.mono (Subtype.property _)⟩ ⟨_, rfl, hI2, hi2.mono (Subtype.property _)⟩)))))
          refine wpQuiet_nil ?_
          rintro w1 ⟨⟨_, x1⟩, rfl⟩
          rw [eqB_true H0.out]
          go_wp2
          go_roundw
          case rel => exact ⟨k2 + 1, by omega, by go_num, take_snoc_eq hlt hlt2 H0.out HE.out, hx.trans x1⟩
          case measure => simp [intOf]; omega
        · have H0 := hid h0
          clear h0
          go_wp2_with fail
          refine wp_region_ext (by kernel_rfl) (by kernel_rfl) ?_
          repeat (go_big_quiet_step (((go_at_call 49; exact quiet_ext (eqEntity_c _ _ _ _ _ ⟨_, rfl, hI, hi.mono (Subtype.property _)⟩ ⟨_, rfl, hI2, hi2.mono (Subtype.property _)⟩)))))
          refine wpQuiet_nil ?_
          rintro w1 ⟨⟨_, x1⟩, rfl⟩
          rw [eqB_false H0.out]
          go_wp2
          go_ret
          exact ⟨ret_bool (eqB_false (ne_of_at hlt hlt2 H0.out)).symm, hx.trans x1⟩
      · go_wp2
        go_ret
        exact ⟨ret_bool (eqB_true (eq_of_take hlt HL.out HE.out)).symm, hx⟩
  · have hl' : ((xs.length : Int) != (ys.length : Int)) = true := by simp; omega
    go_enter Try.func12, Try.ntmps12
    go_wp2
    go_ret
    exact ⟨ret_bool (eqB_false fun e => hl (by rw [e])).symm, Ext.refl _⟩

theorem reads_entity {t : TypeId} {f0 f1 : Field} (ht : Try.prog.underlying t = some (.struct #[f0, f1])) (hc : Try.prog.cellsOf t = 2)
    (h0 : f0.type = 3 ∧ f0.offset = 0) (h1 : f1.type = 40 ∧ f1.offset = 1) : Reads Try.prog t entityR := by
  refine ⟨hc, fun h => ?_⟩
  obtain ⟨a, e0, w0⟩ := Reads.field ht h 0 f0 rfl (h0.1 ▸ rInt)
  obtain ⟨l, v, e1, w1⟩ := Reads.field ht h 1 f1 rfl (h1.1 ▸ rInts)
  rw [h0.2] at e0; rw [h1.2] at e1
  exact ⟨⟨a, l⟩, v, list2 ((struct_len ht h).trans hc) e0 e1, w0, w1⟩
theorem rLawEntity : Reads Try.prog 51 entityR := reads_entity Try.underlying51 (by kernel_rfl) ⟨rfl, rfl⟩ ⟨rfl, rfl⟩
theorem rLawEntities : Reads Try.prog 22 (slR entityR) := reads_slice Try.underlying22 (by kernel_rfl) (by decide) rLawEntity
end Go.Proofs.Ytfcbapaojoecgab
