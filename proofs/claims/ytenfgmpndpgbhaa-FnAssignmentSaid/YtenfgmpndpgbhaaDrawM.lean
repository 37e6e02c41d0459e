/-
  WALKS: l1PickInt, l1New, l25Matrix.
-/
import Derived.Test.YtenfgmpndpgbhaaDraw
namespace Go.Proofs.Ytenfgmpndpgbhaa
open Go.RowKit

theorem Cur.base {w0 w : World} {g : Nat} (h : Cur w0 w g) : Ext w0 w ∧ w0.heap.size ≤ g ∧ g < w.heap.size := by
  obtain ⟨A, cap, bs, p, hh, h1, h2, h3, h4, h5⟩ := h
  exact ⟨h2, h3, block_lt h4⟩
theorem Bld.kept {α : Type} {R : RepO α} {w w2 : World} {base g : Nat} {e : TypeId} {v : Value} {xs : List α} {F : List Nat} (h : Bld R w base e v xs F) (hg : g < base) (k : Kept g w w2) : Bld R w2 base e v xs F :=
  h.keep fun b hb hl => k.2 b hl (by omega)
theorem OwnSl.kept {α : Type} {R : RepO α} {w w2 : World} {g : Nat} {v : Value} {xs : List α} {F : List Nat} (h : OwnSl R w v xs F) (hg : g ∉ F) (k : Kept g w w2) : OwnSl R w2 v xs F :=
  h.keep fun b hb => k.2 b (h.lt b hb) (fun e => hg (e ▸ hb))
/-- an append; what it leaves, block by block -/
theorem wpList_app1g {P : Program} {α : Type} {R : RepO α} {ops : Array Oper} {rest : List Oper} {o : Oper} {a : Act} {W : World} {Q : Exit → Act → World → Prop} {t e : TypeId} {bytes : Nat} (E : ElemT P t e R.n bytes) (hsz : 0 < R.n)
    (hgd : o.guard = none) (s x : Operand) (ho : o.op = .call { callee := .builtin .append, args := #[s, x], argTypes := #[t, t] })
    {base : Nat} {v : Value} {xs : List α} {F : List Nat} (hb : Bld R W base e v xs F) (hs : a.eval s = v) {c : Array Value} {T : TypeId} (g k : Nat) (hx : a.eval x = .slice (some ⟨g, 0, none⟩) 1 k) (hg : g = W.heap.size)
    (h1 : ∀ u ∈ c.toList, u.oneCell' = true) {y : α} {G : List Nat} (hy : R.own W c.toList y G) (hG : (∀ b ∈ G, b ∉ F ∧ v.ownBlock ≠ some b) ∧ G.Nodup ∧ ∀ b ∈ G, base ≤ b)
    (hbytes : xs.length + 1 ≤ 1099511627776) (hby : bytes ≤ 128) (hbase : base ≤ W.heap.size)
    (h : ∀ v' w', Bld R w' base e v' (xs ++ [y]) (F ++ G) → (∀ w0 : World, w0.heap.size ≤ base → Ext w0 W → Ext w0 w') → W.heap.size ≤ w'.heap.size → (∀ b, b < base → w'.heap[b]? = W.heap[b]?) → wpList P ops Q rest (a.put o.dst v') w') :
    wpList P ops Q (o :: rest) a (W.alloc (.cells c T)) := by
  obtain ⟨ht, i, z, hi, hz, hsize, hby2, hzs⟩ := E
  have x1 : Ext W (W.alloc (.cells c T)) := (Ext.refl W).alloc _
  have hb1 := hb.ext x1
  have hl := hb1.lt
  obtain ⟨cs, b1, b2, b3, b4, b5⟩ := hb1
  have hy1 : R.own (W.alloc (.cells c T)) c.toList y G := R.own_keep (fun b hb => x1.block (R.own_lt hy b hb)) hy
  refine wpList_append_own_at (W.alloc (.cells c T)) hgd s x t ho base e i z R.n bytes ht hi hz hsize hby2 hzs hsz v xs.length cs hs b1 ⟨g, 0, none⟩ 1 k c.toList hx (by rw [R.len (R.own_rd hy), Nat.one_mul]) (fun j u hj => ?_) h1
    (by unfold maxLen; omega) (Nat.le_trans (Nat.mul_le_mul hbytes hby) (by decide)) (Nat.le_trans hbase x1.size) ?_
  · subst hg
    have : (W.alloc (.cells c T)).cell? ⟨W.heap.size, j, none⟩ = c[j]? := ((Ext.refl (W.alloc (.cells c T))).box).1 j
    rw [add_eq, Nat.zero_add, this]
    simpa using hj
  · intro v' w' hown hgr _ hat
    obtain ⟨h5, h6⟩ := bld_grown hl b2 b3 b4 b5 hy1 hG hown hgr hat
    refine h _ _ h5 (fun w0 h7 h8 => h6 w0 h7 (h8.trans x1)) (Nat.le_trans x1.size hgr.size) fun b hb => ?_
    have hbW : b < W.heap.size := by omega
    rw [hgr.block b (Nat.lt_of_lt_of_le hbW x1.size) (fun e => by have := (hl.2 b e.symm).2; omega), x1.block hbW]

set_option maxHeartbeats 400000 in
theorem spec_l1PickInt (w0 w : World) (g : Nat) (v : Value) (xs : List Int) (hl : 1 ≤ xs.length ∧ xs.length ≤ 256) (hc : Cur w0 w g) (hs : ∀ w2, Kept g w w2 → Sl intR w2 v xs) :
    Calls Try.prog 102 #[.pointer (some ⟨g, 0, none⟩), v] w fun e w2 => ∃ x, e = .returned (.int .i64 x) ∧ I64 x ∧ Cur w0 w2 g ∧ Kept g w w2 := by
  obtain ⟨A, cap, rfl, hm⟩ := (hs w (Kept.refl _ _)).form
  go_enter Try.func102, Try.ntmps102
  go_wp2_with fail
  refine (spec_l1Below w0 w g xs.length (by omega) hc).mono ?_
  rintro e w2 ⟨x, rfl, hx, hc2, hk⟩
  obtain ⟨j, rfl⟩ : ∃ j : Nat, x = j := ⟨x.toNat, by omega⟩
  have hj : j < xs.length := by omega
  obtain ⟨b, off, rfl, hI, hcell⟩ := (hs w2 hk).int hj
  go_wp2
  go_ret
  exact ⟨_, rfl, hI, hc2, hk⟩

set_option maxHeartbeats 400000 in
set_option maxRecDepth 20000 in
theorem spec_l1New (w : World) (v : Value) (bs : List Int) (h : Sl u8R w v bs) :
    Calls Try.prog 98 #[v] w fun e w2 => e = .returned (.pointer (some ⟨w.heap.size, 0, none⟩)) ∧ Cur w w2 w.heap.size ∧ Ext w w2 := by
  obtain ⟨A, cap, rfl, hm⟩ := h.form
  go_enter Try.func98, Try.ntmps98
  go_wp2
  go_loop [3, 4] (fun x i => ∃ (k : Nat) (u : Int), k ≤ bs.length ∧ i = .int .i64 k ∧ x = .int .i64 u ∧ I64 u) (fun _ i => bs.length - (intOf i).toNat)
  case atStart => exact ⟨0, _, Nat.zero_le _, rfl, rfl, by unfold I64; first | omega | (unfold wrap64; omega)⟩
  case round =>
    obtain ⟨k, u, hk, rfl, rfl, hu⟩ := hrel
    have hu' := hu.out
    by_cases hlt : k < bs.length
    · by_cases h4 : k < 4000
      · obtain ⟨b, off, rfl, hbd, hcb⟩ := h.u8 hlt
        go_wp2
        go_round
        case rel => exact ⟨k + 1, _, by omega, by go_num, rfl, by rw [i64_and30]; unfold I64; omega⟩
        case measure => simp [intOf]; omega
      · go_wp2
        go_ret
        exact ⟨rfl, ⟨A, cap, bs, 0, u, h, (Ext.refl _).alloc _, Nat.le_refl _, Blk.new w _ _, Nat.zero_le _, hu⟩, (Ext.refl _).alloc _⟩
    · go_wp2
      go_ret
      exact ⟨rfl, ⟨A, cap, bs, 0, u, h, (Ext.refl _).alloc _, Nat.le_refl _, Blk.new w _ _, Nat.zero_le _, hu⟩, (Ext.refl _).alloc _⟩

theorem lit_kept {w w2 : World} {g : Nat} {T : TypeId} {xs : List Int} {cs : Array Value} (hcs : cs.toList = xs.map (Value.int .i64)) (h : ∀ x ∈ xs, I64 x) (hl : xs.length ≤ maxLen) (hg : g < w.heap.size) (k : Kept g (w.alloc (.cells cs T)) w2) :
    OwnSl intO w2 (.slice (some ⟨w.heap.size, 0, none⟩) xs.length xs.length) xs [w.heap.size] := by
  have hb := Blk.new w T cs
  rw [hcs] at hb
  exact (OwnSl.of_blk hb hl (ints_cells _ _ h)).kept (by simp; omega) k

set_option maxHeartbeats 400000 in
set_option maxRecDepth 20000 in
theorem spec_l25Matrix (w0 w : World) (g : Nat) (hc : Cur w0 w g) :
    Calls Try.prog 116 #[.pointer (some ⟨g, 0, none⟩)] w fun e w2 => ∃ v2 m F, e = .returned v2 ∧ OwnSl (slO intO) w2 v2 m F ∧ NewF w F ∧ Cur w0 w2 g ∧ Kept g w w2 := by
  obtain ⟨hx0, hg0, hg⟩ := hc.base
  have h0w := hx0.size
  clear hx0
  go_enter Try.func116, Try.ntmps116
  go_wp2_with fail
  refine (spec_l1Below w0 _ g 5 (by decide) (hc.ext ((Ext.refl _).alloc _))).mono ?_
  rintro e w2 ⟨x1, rfl, hx1, hc2, hk2⟩
  go_wp2_with fail
  refine (spec_l1Below w0 _ g 5 (by decide) hc2).mono ?_
  rintro e w3 ⟨x2, rfl, hx2, hc3, hk3⟩
  obtain ⟨n2, rfl⟩ : ∃ n : Nat, x2 = n := ⟨x2.toNat, by omega⟩
  have hk : Kept g w w3 := (Ext.kept ((Ext.refl _).alloc _)).trans (hk2.trans hk3)
  have hB0 := (Bld.lit (R := slO intO) w (Nat.le_refl _) 23).kept hg (hk2.trans hk3)
  clear hc hc2 hk2 hk3
  go_wp2
  go_loopw [3, 5] (fun t i wr => ∃ (m : List (List Int)) (F : List Nat) (n : Nat), i = .int .i64 n ∧ m.length + n ≤ 5 ∧ Bld (slO intO) wr w.heap.size 23 t m F ∧ Cur w0 wr g ∧ Kept g w wr) (fun _ i _ => (intOf i).toNat)
  case atStart => exact ⟨[], [], n2, rfl, by simp; omega, hB0, hc3, hk⟩
  case round =>
    clear hB0 hc3 hk
    obtain ⟨m, F, n, rfl, hmn, hB, hc, hk⟩ := hrel
    have hsz := hk.1
    by_cases hn : 0 < n
    · go_wp2
      obtain ⟨wo, hwo⟩ : ∃ wo : World, wo = wr := ⟨_, rfl⟩
      go_loopw [6, 7] (fun t i wi => ∃ row : List Int, (row.length : Int) ≤ x1 ∧ i = .int .i64 row.length ∧ Bld intO wi wo.heap.size 3 t row [] ∧ Cur w0 wi g ∧ Kept g wo wi) (fun _ i _ => x1.toNat - (intOf i).toNat)
      case atStart => exact ⟨[], by simp; omega, rfl, by rw [hwo]; exact Bld.lit wr (Nat.le_refl _) _, hc.ext ((Ext.refl _).alloc _), by rw [hwo]; exact Ext.kept ((Ext.refl _).alloc _)⟩
      case round =>
        obtain ⟨row, hj, rfl, hB2, hc2, hk2⟩ := hrel
        rw [← hwo] at hB hc hk hsz
        have hsz2 := hk2.1
        by_cases hlt : (row.length : Int) < x1
        · go_wp2_with fail
          refine (spec_l1PickInt w0 _ g _ [0, 0, 1, 2, 3, 1] (by decide) (hc2.ext ((Ext.refl _).alloc _)) (fun w4 k4 => (lit_kept rfl (by simp [I64]) (by decide) (by omega) k4).sl)).mono ?_
          rintro e w4 ⟨x, rfl, hI, hc4, hk4⟩
          have hkk := (Ext.kept (g := g) ((Ext.refl _).alloc _)).trans hk4
          have hB4 := hB2.kept (by omega) hkk
          have hs4 := hkk.1
          go_wp2_with (at_builtin; go_loud (refine wpList_app1g elemInt (by decide) rfl _ _ rfl hB4 rfl w4.heap.size 1 rfl rfl (one_int _) (own_int _ _ hI) fresh_nil (by omega) (by decide) (by omega) ?_); intro v9 w9 hB9 hE9 hs9 hk9)
          go_roundw
          case rel => exact ⟨row ++ [x], by simp; try omega, by simp, hB9, hc4.keep (hE9 w0 (by omega) hc4.base.1) (hk9 g (by omega)), ⟨by omega, fun b hb hne => (hk9 b hb).trans ((hk2.trans hkk).2 b hb hne)⟩⟩
          case measure => simp [intOf]; omega
        · obtain ⟨F1, ho, hn1, hn2⟩ := hB2.done
          have hnw : NewF wo F1 := ⟨hn1, hn2⟩
          obtain ⟨A3, cap3, e3, _⟩ := ho.form
          rw [e3] at ho
          subst e3
          have hBx := hB.kept hg hk2
          have hG := hB.fresh hnw hsz
          go_wp2_with (at_builtin; go_loud (refine wpList_app1g elemInts (by decide) rfl _ _ rfl hBx rfl _ 1 rfl rfl (one_slice _ _ _) (y := row) ⟨_, rfl, ho⟩ hG (by omega) (by decide) (by omega) ?_); intro v9 w9 hB9 hE9 hs9 hk9)
          go_roundw
          case rel => exact ⟨m ++ [row], _, n - 1, by (have e9 : ((n - 1 : Nat) : Int) = (n : Int) - 1 := by omega); rw [e9], by simp; omega, hB9, hc2.keep (hE9 w0 (by omega) hc2.base.1) (hk9 g (by omega)), ⟨by omega, fun b hb hne => (hk9 b hb).trans ((hk.trans hk2).2 b hb hne)⟩⟩
          case measure => simp [intOf]; try omega
    · obtain rfl : n = 0 := by omega
      go_wp2_with fail
      refine (spec_l1Once w0 _ g 16 (by decide) hc).mono ?_
      rintro e w4 ⟨x, rfl, hc4, hk4⟩
      have hB4 := hB.kept hg hk4
      have hkk := hk.trans hk4
      cases x with
      | false =>
        go_wp2
        go_ret
        obtain ⟨F', d1, d2, d3⟩ := hB4.done
        exact ⟨_, m, F', rfl, d1, ⟨d2, d3⟩, hc4, hkk⟩
      | true =>
        have hs4 := hkk.1
        go_wp2_with fail
        refine (spec_l1PickInt w0 _ g _ [-1, 101] (by decide) (hc4.ext ((Ext.refl _).alloc _)) (fun w5 k5 => (lit_kept rfl (by simp [I64]) (by decide) (by omega) k5).sl)).mono ?_
        rintro e w5 ⟨y, rfl, hI, hc5, hk5⟩
        have hk6 := (Ext.kept (g := g) ((Ext.refl _).alloc _)).trans hk5
        have hB5 := hB4.kept hg hk6
        have hs5 := hk6.1
        have hrow : OwnSl intO (w5.alloc (.cells #[.int .i64 y] 3)) (.slice (some ⟨w5.heap.size, 0, none⟩) 1 1) [y] [w5.heap.size] :=
          OwnSl.of_blk (xs := [y]) (Blk.new w5 3 #[.int .i64 y]) (by simp [maxLen]) (ints_cells _ [y] (by simpa using hI))
        have hG := hB5.fresh (G := [w5.heap.size]) ⟨by simp, by simp⟩ (by omega)
        go_wp2_with (at_builtin; refine wpList_app1g elemInts (by decide) rfl _ _ rfl (hB5.ext ((Ext.refl _).alloc _)) rfl _ 1 rfl (by simp) (one_slice _ _ _) (y := [y]) ⟨_, rfl, hrow⟩ hG (by omega) (by decide) (by simp; omega) ?_; intro v9 w9 hB9 hE9 hs9 hk9)
        go_ret
        obtain ⟨F', d1, d2, d3⟩ := hB9.done
        have hc6 := hc5.ext ((Ext.refl _).alloc (.cells #[.int .i64 y] 3))
        have hk8 := (Ext.kept (g := g) ((Ext.refl w5).alloc (.cells #[.int .i64 y] 3)))
        exact ⟨_, _, F', rfl, d1, ⟨d2, d3⟩, hc6.keep (hE9 w0 (by omega) hc6.base.1) (hk9 g (by omega)), ⟨by simp at hs9; omega, fun b hb hne => (hk9 b hb).trans (((hkk.trans hk6).trans hk8).2 b hb hne)⟩⟩
end Go.Proofs.Ytenfgmpndpgbhaa
