/-
  SEVERAL SMALL TEXTS LAID TOGETHER: Bit, AppN, Cat, ClR2, Shr, EqSto, Draw, Drw0, AppBi2, DrawM, Turn, Big, DrawK, DrawR.
-/
import Derived.Test.YtfcbapaojoecgaaGreatMgEndAppB0
import Derived.Laws.BitsAllLaws
import Derived.Laws.BitsLemmas
import Derived.Laws.OwnMore
import Derived.Laws.Concat
import Derived.Test.YtfcbapaojoecgaaGreatMgEndAppB14
import Derived.Test.YtfcbapaojoecgaaGreatMgEndAppB8
import Derived.Test.YtfcbapaojoecgaaGreatMgEndAppB5
import Derived.Laws.Bits128
import Derived.Test.YtfcbapaojoecgaaGreatMgEndAppB10
import Derived.Test.YtfcbapaojoecgaaGreatMgEndRepB0

namespace Go.Proofs.YtfcbapaojoecgaaGreat
open Go.RowKit

theorem nat_i64 (a : Nat) (h : a < 2 ^ 63) : (BitVec.ofInt 64 (a : Int)).toNat = a := by
  rw [BitVec.ofInt_natCast, BitVec.toNat_ofNat]
  exact Nat.mod_eq_of_lt (Nat.lt_trans h (by decide))
theorem wrap_nat (x : Nat) (h : x < 2 ^ 63) : IntKind.i64.wrap (x : Int) = (x : Int) := by
  rw [IntKind.wrap_i64]
  have : x < 9223372036854775808 := h
  omega
theorem or_nat {a b : Nat} (ha : a < 2 ^ 63) (hb : b < 2 ^ 63) : bits .or .i64 (a : Int) (b : Int) = ((a ||| b : Nat) : Int) := by
  have e : bits .or .i64 (a : Int) (b : Int) = IntKind.i64.wrap (((BitVec.ofInt 64 (a : Int)) ||| (BitVec.ofInt 64 (b : Int))).toNat : Int) := rfl
  rw [e, BitVec.toNat_or, nat_i64 a ha, nat_i64 b hb, wrap_nat _ (Nat.or_lt_two_pow ha hb)]
theorem and_one {a : Nat} (ha : a < 2 ^ 63) : bits .and .i64 (a : Int) 1 = ((a % 2 : Nat) : Int) := by
  have e : bits .and .i64 (a : Int) 1 = IntKind.i64.wrap (((BitVec.ofInt 64 (a : Int)) &&& (BitVec.ofInt 64 ((1 : Nat) : Int))).toNat : Int) := rfl
  rw [e, BitVec.toNat_and, nat_i64 a ha, nat_i64 1 (by decide), Nat.and_one_is_mod]
  exact wrap_nat _ (by omega)
/-- 's >> c & 1 == 0' -/
theorem bit_test {s c : Nat} (hs : s < 2 ^ 63) : (bits .and .i64 ((s : Int) / 2 ^ c) 1 == 0) = !s.testBit c := by
  have e : ((s : Int) / 2 ^ c) = ((s / 2 ^ c : Nat) : Int) := by rw [Int.natCast_ediv, Int.natCast_pow]; rfl
  have h : s / 2 ^ c ≤ s := Nat.div_le_self _ _
  rw [e, and_one (Nat.lt_of_le_of_lt h hs), Nat.testBit_eq_decide_div_mod_eq]
  have : s / 2 ^ c % 2 = 0 ∨ s / 2 ^ c % 2 = 1 := by omega
  rcases this with h | h <;> rw [h] <;> rfl
/-- 's | 1 << c' -/
theorem bit_set {s c : Nat} (hs : s < 2 ^ 63) (hc : c < 63) : bits .or .i64 (s : Int) (2 ^ c) = ((s ||| 1 <<< c : Nat) : Int) := by
  have e : ((2 : Int) ^ c) = ((1 <<< c : Nat) : Int) := by rw [Nat.one_shiftLeft, Int.natCast_pow]; rfl
  rw [e, or_nat hs]
  rw [Nat.one_shiftLeft]
  exact Nat.pow_lt_pow_right (by decide) hc
theorem wrap64_pow {c : Nat} (hc : c < 63) : wrap64 (2 ^ c) = 2 ^ c := by
  have e : ((2 : Int) ^ c) = ((2 ^ c : Nat) : Int) := by rw [Int.natCast_pow]; rfl
  have h : 2 ^ c < 2 ^ 63 := Nat.pow_lt_pow_right (by decide) hc
  have h2 : (2 : Nat) ^ 63 = 9223372036854775808 := by decide
  rw [e]
  generalize (2 : Nat) ^ c = x at h
  unfold wrap64
  omega
theorem bit_setw {s c : Nat} (hs : s < 2 ^ 63) (hc : c < 63) : bits .or .i64 (s : Int) (wrap64 (2 ^ c)) = ((s ||| 1 <<< c : Nat) : Int) := by
  rw [wrap64_pow hc, bit_set hs hc]
theorem bit_set_lt {s c n : Nat} (hs : s < 2 ^ n) (hc : c < n) : s ||| 1 <<< c < 2 ^ n := by
  refine Nat.or_lt_two_pow hs ?_
  rw [Nat.one_shiftLeft]
  exact Nat.pow_lt_pow_right (by decide) hc
end Go.Proofs.YtfcbapaojoecgaaGreat

namespace Go.Proofs.YtfcbapaojoecgaaGreat
open Go.RowKit

theorem ints_own (xs : List Int) (h : ∀ x ∈ xs, I64 x) (W : World) : OwnCells intO W (xs.map (Value.int .i64)) xs [] := by
  induction xs with
  | nil => exact .nil
  | cons x xs ih => exact ⟨[.int .i64 x], _, [], [], rfl, rfl, ⟨⟨rfl, h x (List.mem_cons_self ..)⟩, rfl⟩, ih fun y hy => h y (List.mem_cons_of_mem _ hy)⟩
theorem Sl.ints_some {w : World} {ad : Addr} {n cap : Nat} {xs : List Int} (h : Sl intR w (.slice (some ad) n cap) xs) : (∀ x ∈ xs, I64 x) ∧ ∀ j u, (xs.map (Value.int .i64))[j]? = some u → w.cell? (ad.add j) = some u := by
  refine ⟨fun x hx => ?_, fun j u hj => ?_⟩
  · obtain ⟨i, hi, rfl⟩ := List.getElem_of_mem hx
    obtain ⟨_, _, _, h1, _⟩ := h.int hi
    exact h1
  · rw [List.getElem?_map] at hj
    obtain ⟨x, hx, rfl⟩ := Option.map_eq_some_iff.1 hj
    obtain ⟨hi, hx⟩ := List.getElem?_eq_some_iff.1 hx
    obtain ⟨b, off, e, h1, hc⟩ := h.int hi
    injection e with e
    subst e
    rw [add_eq, hc, hx]
/-- 'append(s, t...)': the ints of t, which may be the caller's -/
theorem wpList_appn {P : Program} {ops : Array Oper} {rest : List Oper} {o : Oper} {a : Act} {w : World} {Q : Exit → Act → World → Prop} {t e : TypeId} (E : ElemT P t e intO.n 8)
    (hgd : o.guard = none) (s x : Operand) (ho : o.op = .call { callee := .builtin .append, args := #[s, x], argTypes := #[t, t] })
    {base : Nat} {v : Value} {xs : List Int} (hb : Bld intO w base e v xs []) (hs : a.eval s = v) {A : Option Addr} {n k : Nat} (hx : a.eval x = .slice A n k) {ys : List Int} (hy : Sl intR w (.slice A n k) ys)
    (hbytes : xs.length + ys.length ≤ 1099511627776) (hbase : base ≤ w.heap.size)
    (h : ∀ v' w', Bld intO w' base e v' (xs ++ ys) [] → (∀ w0 : World, w0.heap.size ≤ base → Ext w0 w → Ext w0 w') → wpList P ops Q rest (a.put o.dst v') w') :
    wpList P ops Q (o :: rest) a w := by
  obtain ⟨ht, i, z, hi, hz, hsize, hby2, hzs⟩ := E
  have hn : n = ys.length := hy.cap_.1
  cases A with
  | none =>
    have h0 : ys = [] := by
      cases ys with
      | nil => rfl
      | cons y ys =>
        obtain ⟨_, _, _, e, _⟩ := hy.at_ (show 0 < (y :: ys).length by simp)
        cases e
    subst h0
    have hn0 : n = 0 := hn
    subst hn0
    obtain ⟨cs, b1, b2⟩ := hb
    refine wpList_plain hgd fun K hK => ?_
    have hr : (Builtin.append_ #[t, t] o.type #[v, .slice none 0 k]).run P w = .ok v w := by
      rcases b1.2 with ⟨rfl, _⟩ | ⟨g, cap, cur, rfl, _, _, hnc, _⟩
      · simp [Builtin.append_, run_underlying ht, sizeOf, typeInfo, hi, Builtin.lenOf, Builtin.firstCells]
      · simp [Builtin.append_, run_underlying ht, sizeOf, typeInfo, hi, Builtin.lenOf, Builtin.firstCells, hnc, storeCells]
    unfold Oper.wp execOp
    simp only [ho, resolve, invoke, builtin, Sem.run_bind, Sem.run_pure, Result.andThen_ok, List.map_toArray, List.map_cons, List.map_nil, hs, hx, hr]
    exact hK _ _ (h v w (by rw [List.append_nil]; exact ⟨cs, b1, b2⟩) fun _ _ hx => hx)
  | some ad =>
    obtain ⟨hI, hc⟩ := hy.ints_some
    have hl := hb.lt
    obtain ⟨cs, b1, b2, b3, b4, b5⟩ := hb
    refine wpList_append_own_at w hgd s x t ho base e i z intO.n 8 ht hi hz hsize hby2 hzs (by decide) v xs.length cs hs b1 ad n k (ys.map (Value.int .i64)) hx (by rw [List.length_map, hn]; exact (Nat.mul_one _).symm) hc (fun u hu => by
      obtain ⟨y, _, rfl⟩ := List.mem_map.1 hu; rfl) (by unfold maxLen; omega) (by omega) hbase ?_
    intro v' w' hown hgr _ hat
    refine h v' w' ⟨cs ++ ys.map (Value.int .i64), by rw [List.length_append, ← hn]; exact hown, ?_, fun _ _ hm => (by cases hm), List.nodup_nil, fun _ hm => by cases hm⟩ fun w0 h0 hx0 => hx0.grown hgr fun g hg => Nat.le_trans h0 (hl.2 g hg).2
    have := OwnCells.append (b2.keep (w2 := w') fun b hb => by cases hb) (ints_own ys hI w')
    simpa using this
end Go.Proofs.YtfcbapaojoecgaaGreat

namespace Go.Proofs.YtfcbapaojoecgaaGreat
open Go.RowKit

/-- 'a + b' on strings -/
theorem run_cat {P : Program} (t : TypeId) (a b : ByteArray) (h : a.size + b.size ≤ 9223372036854775807) (W : World) : (binOp .add t (.string a) (.string b)).run P W = .ok (.string (a ++ b)) W := by
  have h2 := run_string_add_sum (P := P) (w := W) a b h
  simp only [binOp, h2]
end Go.Proofs.YtfcbapaojoecgaaGreat

namespace Go.Proofs.YtfcbapaojoecgaaGreat
open Go.RowKit

def SzR (xs : List Record) : Prop := xs.length ≤ 1048576 ∧ ∀ r ∈ xs, r.fields.length ≤ 1048576
set_option maxHeartbeats 1000000 in
set_option maxRecDepth 20000 in
theorem impl_cloneRecords2 (v : Value) (xs : List Record) (w : World) (h : Sl recordR w v xs) (hb9 : SzR xs) :
    Calls Tryz.prog 95 #[v] w fun e w2 => ∃ v2 F, e = .returned v2 ∧ Bld recordO w2 w.heap.size 72 v2 xs F ∧ Ext w w2 := by
  have hb := hb9.1
  obtain ⟨A, cap, rfl, hm⟩ := h.form
  obtain ⟨i0, hi0, hz0, hz1, hz2⟩ := info_parts infoRecord
  have hmk := run_mk (P := Tryz.prog) 31 72 i0 _ recordZ 48 Tryz.underlying31 hi0 hz0 rfl hz1 hz2 xs.length (by omega) hm
  go_enter Tryz.func95, Tryz.ntmps95
  go_wp2
  go_loopw [11] (fun i wr => ∃ (k : Nat) (done : List Value) (F : List Nat), k ≤ xs.length ∧ i = .int .i64 k ∧ Blk wr w.heap.size 72 (done ++ (List.replicate (xs.length - k) recordZ).flatten) ∧
    OwnCells recordO wr done (xs.take k) F ∧ FromF w.heap.size F ∧ Ext w wr) (fun i _ => xs.length - (intOf i).toNat)
  case atStart => exact ⟨0, [], [], Nat.zero_le _, rfl, by simpa using Blk.new w 72 (List.replicate xs.length recordZ).flatten.toArray, .nil, .nil _, (Ext.refl _).alloc _⟩
  case round =>
    obtain ⟨k, done, F, hk, rfl, hblk, hown, hF, hx⟩ := hrel
    by_cases hlt : k < xs.length
    · obtain ⟨b, off, A2, cap2, rfl, hok, hsl, hc0, hc1, hc2, hc3⟩ := (h.mono hx).record hlt
      have hz : (List.replicate (xs.length - k) recordZ).flatten = .int .i64 0 :: .int .i64 0 :: .int .i64 0 :: .slice none 0 0 :: (List.replicate (xs.length - (k + 1)) recordZ).flatten := by
        rw [show xs.length - k = (xs.length - (k + 1)) + 1 by omega, List.replicate_succ]; rfl
      rw [hz] at hblk
      clear hz
      have hl : done.length = k * 4 := by rw [hown.length]; simp [recordO, recordR]; omega
      have hgl := block_lt hblk.out
      have HL := hid hl
      have hbk : xs[k].fields.length ≤ 1048576 := hb9.2 _ (List.getElem_mem hlt)
      have xb : Ext wr (wr.alloc (.cells #[.int .i64 xs[k].source, .int .i64 xs[k].key, .int .i64 xs[k].version, .slice A2 xs[k].fields.length cap2] 72)) := (Ext.refl wr).alloc _
      clear hl
      go_wp2_with fail
      refine (impl_cloneRecord _ xs[k] _ ⟨_, rfl, hok, hsl.mono xb⟩ hbk).mono ?_
      rintro e w2 ⟨v2, F2, rfl, ⟨m2, rfl, _, ho⟩, hn, x2⟩
      have hblk2 := hblk.ext (xb.trans x2)
      obtain ⟨A3, cap3, e3, _⟩ := ho.form
      subst e3
      obtain ⟨p0, q0⟩ := hblk2.at_ HL.out
      have b0 := hblk2.store HL.out (Value.int .i64 xs[k].source)
      have l0 : (done ++ [(Value.int .i64 xs[k].source)]).length = k * 4 + 1 := by rw [List.length_append, HL.out]; rfl
      obtain ⟨p1, q1⟩ := b0.at_ l0
      have b1 := b0.store l0 (Value.int .i64 xs[k].key)
      have l1 : (done ++ [(Value.int .i64 xs[k].source)] ++ [(Value.int .i64 xs[k].key)]).length = k * 4 + 2 := by rw [List.length_append, l0]; rfl
      obtain ⟨p2, q2⟩ := b1.at_ l1
      have b2 := b1.store l1 (Value.int .i64 xs[k].version)
      have l2 : (done ++ [(Value.int .i64 xs[k].source)] ++ [(Value.int .i64 xs[k].key)] ++ [(Value.int .i64 xs[k].version)]).length = k * 4 + 3 := by rw [List.length_append, l1]; rfl
      obtain ⟨p3, q3⟩ := b2.at_ l2
      have b3 := b2.store l2 (Value.slice A3 xs[k].fields.length cap3)
      have hk2 : ∀ b, b ≠ w.heap.size → ((((w2.setCell ⟨w.heap.size, k * 4, none⟩ (Value.int .i64 xs[k].source)).setCell ⟨w.heap.size, k * 4 + 1, none⟩ (Value.int .i64 xs[k].key)).setCell ⟨w.heap.size, k * 4 + 2, none⟩ (Value.int .i64 xs[k].version)).setCell ⟨w.heap.size, k * 4 + 3, none⟩ (Value.slice A3 xs[k].fields.length cap3)).heap[b]? = w2.heap[b]? :=
        fun b hb => ((keep_setCell hb).trans ((keep_setCell hb).trans ((keep_setCell hb).trans (keep_setCell hb))))
      obtain ⟨ho3, hF3⟩ := hown.step (R := recordO) hF (xb.trans x2) ⟨_, rfl, hok, ho⟩ (hn.ext xb) hgl hk2
      have HK := hid (And.intro ho3 hF3)
      have HST := hid b3
      have HX4 := hid ((((hx.trans (xb.trans x2)).setCell (p := ⟨w.heap.size, k * 4, none⟩) (Nat.le_refl _) (Value.int .i64 xs[k].source)).setCell (p := ⟨w.heap.size, k * 4 + 1, none⟩) (Nat.le_refl _) (Value.int .i64 xs[k].key)).setCell (p := ⟨w.heap.size, k * 4 + 2, none⟩) (Nat.le_refl _) (Value.int .i64 xs[k].version) |>.setCell (p := ⟨w.heap.size, k * 4 + 3, none⟩) (Nat.le_refl _) (Value.slice A3 xs[k].fields.length cap3))
      clear hblk hblk2 HL b0 b1 b2 b3 l0 l1 l2 hk2 ho3 hF3 hok
      go_wp2
      go_roundw
      case rel => exact ⟨k + 1, done ++ [(Value.int .i64 xs[k].source), (Value.int .i64 xs[k].key), (Value.int .i64 xs[k].version), (Value.slice A3 xs[k].fields.length cap3)], F ++ F2, by omega, by go_num, by simpa using HST.out, by rw [List.take_succ_eq_append_getElem hlt]; exact HK.out.1, HK.out.2, HX4.out⟩
      case measure => simp [intOf]; omega
    · go_wp2
      go_ret
      rw [show xs.length - k = 0 by omega, List.replicate_zero, List.flatten_nil, List.append_nil] at hblk
      rw [List.take_of_length_le (by omega)] at hown
      exact ⟨_, _, rfl, Bld.of_blk hblk (Nat.le_refl _) (by unfold maxLen; omega) hown hF, hx⟩

set_option maxHeartbeats 2000000 in
set_option maxRecDepth 20000 in
theorem impl_cloneStore2 (v : Value) (s : Store) (w : World) (h : StoAt w v s) (hb : SzR s.records) (hb2 : s.verdicts.length ≤ 1048576) :
    Calls Tryz.prog 46 #[v] w (StoNew w s · ·) := by
  obtain ⟨r, d, rfl, hI, hr, hd⟩ := h
  have xw : Ext w ((w.alloc (.cells #[.int .i64 s.version, r, d] 34)).alloc (.cells #[.int .i64 0, .slice none 0 0, .slice none 0 0] 34)) := ((Ext.refl w).alloc _).alloc _
  have bR := Blk.new (w.alloc (.cells #[.int .i64 s.version, r, d] 34)) 34 #[.int .i64 0, .slice none 0 0, .slice none 0 0]
  rw [World.size_alloc] at bR
  have bP := (Blk.new w 34 #[.int .i64 s.version, r, d]).ext ((Ext.refl _).alloc (.cells #[.int .i64 0, .slice none 0 0, .slice none 0 0] 34))
  obtain ⟨W0, hW0⟩ : ∃ W0, W0 = (w.alloc (.cells #[.int .i64 s.version, r, d] 34)).alloc (.cells #[.int .i64 0, .slice none 0 0, .slice none 0 0] 34) := ⟨_, rfl⟩
  have hsz : W0.heap.size = w.heap.size + 1 + 1 := by rw [hW0]; simp
  rw [← hW0] at bR bP xw
  have HP := hid (show ∀ W, Kp (w.heap.size + 1) W0 W → W.cell? ⟨w.heap.size, 0, none⟩ = some (.int .i64 s.version) ∧ W.cell? ⟨w.heap.size, 1, none⟩ = some r ∧ W.cell? ⟨w.heap.size, 2, none⟩ = some d from fun W y => by
    have b := bP.keep (y.2 _ (block_lt bP) (by omega))
    exact ⟨b.cells.1 0, b.cells.1 1, b.cells.1 2⟩)
  have HR := hid (show ∀ W, Ext W0 W → Blk W (w.heap.size + 1) 34 [.int .i64 0, .slice none 0 0, .slice none 0 0] from fun W y => bR.ext y)
  have HS := hid hsz
  have HX := hid xw
  have hI0 := hid hI
  clear bR bP hsz xw hI
  go_enter Tryz.func46, Tryz.ntmps46
  go_wp2_with fail
  rw [← hW0]
  clear hW0
  go_region_held3 (fun w' => w'.cell? ⟨w.heap.size, 0, none⟩ = some (.int .i64 s.version) ∧ w'.cell? ⟨w.heap.size, 1, none⟩ = some r ∧ w'.cell? ⟨w.heap.size, 2, none⟩ = some d) (exact HP.out _ (by repeat (first | with_reducible exact Kp.refl _ _ | with_reducible exact Ext.kp (Ext.drew (Ext.refl _)) | with_reducible refine Kp.trans ?_ (Kp.set _ _ _ _) | with_reducible refine Kp.trans ?_ (Ext.kp (by with_reducible assumption)))))
    (first
      | (go_at_call 95; refine (impl_cloneRecords2 _ s.records _ (hr.mono (HX.out.trans (by repeat (first | with_reducible exact Ext.refl _ | with_reducible assumption | with_reducible refine Ext.drew ?_ | with_reducible refine Ext.alloc ?_ _ | with_reducible refine Ext.trans ?_ (by with_reducible assumption))))) hb).mono ?_; rintro e wa ⟨va, Fa, rfl, ba, xa⟩; obtain ⟨Aa, ca, ea, _⟩ := ba.sl.form; subst ea; have b8 := HR.out wa (by repeat (first | with_reducible exact Ext.refl _ | with_reducible assumption | with_reducible refine Ext.drew ?_ | with_reducible refine Ext.alloc ?_ _ | with_reducible refine Ext.trans ?_ (by with_reducible assumption))); obtain ⟨⟨c80, c81, c82⟩, f8⟩ := (⟨⟨b8.cells.1 0, b8.cells.1 1, b8.cells.1 2⟩, b8.cells.2⟩ : (_ ∧ _ ∧ _) ∧ _))
      | (go_at_call 96; refine (slices_Clone_vB _ s.verdicts _ (hd.mono (HX.out.trans (by repeat (first | with_reducible exact Ext.refl _ | with_reducible assumption | with_reducible refine Ext.drew ?_ | with_reducible refine Ext.alloc ?_ _ | with_reducible refine Ext.trans ?_ (by with_reducible assumption))))) hb2).mono ?_; rintro e wb ⟨vb, rfl, bb, xb⟩; obtain ⟨Ab, cb, eb, _⟩ := bb.sl.form; subst eb; have b8 := HR.out wb (by repeat (first | with_reducible exact Ext.refl _ | with_reducible assumption | with_reducible refine Ext.drew ?_ | with_reducible refine Ext.alloc ?_ _ | with_reducible refine Ext.trans ?_ (by with_reducible assumption))); obtain ⟨⟨c80, c81, c82⟩, f8⟩ := (⟨⟨b8.cells.1 0, b8.cells.1 1, b8.cells.1 2⟩, b8.cells.2⟩ : (_ ∧ _ ∧ _) ∧ _)))
  all_goals
    have b9 := Blk.store3 b8 (.int .i64 s.version) (.slice Aa s.records.length ca) (.slice Ab s.verdicts.length cb)
    have r0 := b9.cells.1 0
    have r1 := b9.cells.1 1
    have r2 := b9.cells.1 2
    have hs2 := HS.out
    clear c80 c81 c82 f8
    go_wp2
    refine bodyPost_ret (v := .agg #[.int .i64 s.version, .slice Aa s.records.length ca, .slice Ab s.verdicts.length cb]) (by simp [results, Tryz.results46, go_sem, r0, r1, r2]) rfl ?_
    have R := Rows2.mk2 ba xb bb xa.size
    have hsz : W0.drew.heap.size = w.heap.size + 1 + 1 := hs2
    rw [hsz] at R ba
    obtain ⟨n1, n2⟩ := ba.below (g := w.heap.size + 1) (by omega)
    have n3 : (Value.slice Ab s.verdicts.length cb).ownBlock ≠ some (w.heap.size + 1) := fun e => by have h1 := (bb.lt.2 _ e).2; have h2 := xa.size; omega
    exact ⟨_, _, Fa, rfl, (R.kp (Kp.store3 (w.heap.size + 1) 0 _ _ _ _) n1 n2 n3).low (by omega), hI0.out, Ext.store3 (HX.out.trans (((Ext.refl W0).drew.trans xa).trans xb)) (by omega) _ _ _⟩

set_option maxHeartbeats 4000000 in
set_option maxRecDepth 20000 in
theorem spec_l30Copy2 (v : Value) (s : Store) (w : World) (h : StoAt w v s) (hb : SzR s.records) (hb2 : s.verdicts.length ≤ 1048576) :
    Calls Tryz.prog 34 #[v] w (StoNew w s · ·) := by
  obtain ⟨r, d, rfl, hI, hr, hd⟩ := h
  obtain ⟨Ao, co, rfl, _⟩ := hr.form
  have xw : Ext w ((w.alloc (.cells #[.int .i64 s.version, .slice Ao s.records.length co, d] 34)).alloc (.cells #[.int .i64 0, .slice none 0 0, .slice none 0 0] 34)) := ((Ext.refl w).alloc _).alloc _
  have bR := Blk.new (w.alloc (.cells #[.int .i64 s.version, .slice Ao s.records.length co, d] 34)) 34 #[.int .i64 0, .slice none 0 0, .slice none 0 0]
  rw [World.size_alloc] at bR
  have bP := (Blk.new w 34 #[.int .i64 s.version, .slice Ao s.records.length co, d]).ext ((Ext.refl _).alloc (.cells #[.int .i64 0, .slice none 0 0, .slice none 0 0] 34))
  obtain ⟨W0, hW0⟩ : ∃ W0, W0 = (w.alloc (.cells #[.int .i64 s.version, .slice Ao s.records.length co, d] 34)).alloc (.cells #[.int .i64 0, .slice none 0 0, .slice none 0 0] 34) := ⟨_, rfl⟩
  have hsz : W0.heap.size = w.heap.size + 1 + 1 := by rw [hW0]; simp
  rw [← hW0] at bR bP xw
  have HP := hid (show ∀ W, Ext W0 W → W.cell? ⟨w.heap.size, 0, none⟩ = some (.int .i64 s.version) ∧ W.cell? ⟨w.heap.size, 1, none⟩ = some (.slice Ao s.records.length co) ∧ W.cell? ⟨w.heap.size, 2, none⟩ = some d from fun W y => ⟨(bP.ext y).cells.1 0, (bP.ext y).cells.1 1, (bP.ext y).cells.1 2⟩)
  have HR := hid (show ∀ W, Ext W0 W → Blk W (w.heap.size + 1) 34 [.int .i64 0, .slice none 0 0, .slice none 0 0] from fun W y => bR.ext y)
  have HS := hid hsz
  have HX := hid xw
  have hI0 := hid hI
  clear bR bP hsz xw hI
  go_enter Tryz.func34, Tryz.ntmps34
  go_wp2_with fail
  rw [← hW0]
  clear hW0
  go_region_held3 (fun w' => w'.cell? ⟨w.heap.size, 0, none⟩ = some (.int .i64 s.version) ∧ w'.cell? ⟨w.heap.size, 1, none⟩ = some (.slice Ao s.records.length co) ∧ w'.cell? ⟨w.heap.size, 2, none⟩ = some d) (exact HP.out _ (by repeat (first | with_reducible exact Ext.refl _ | with_reducible assumption | with_reducible refine Ext.drew ?_ | with_reducible refine Ext.alloc ?_ _ | (refine Ext.setCell ?_ (by simp) _) | with_reducible refine Ext.trans ?_ (by with_reducible assumption))))
    (first
      | (go_at_call 81; refine (spec_l28CopyB _ s.verdicts _ (hd.mono (HX.out.trans (by repeat (first | with_reducible exact Ext.refl _ | with_reducible assumption | with_reducible refine Ext.drew ?_ | with_reducible refine Ext.alloc ?_ _ | with_reducible refine Ext.trans ?_ (by with_reducible assumption))))) hb2).mono ?_; rintro e wb ⟨vb, rfl, bb, xb⟩; obtain ⟨Ab, cb, eb, _⟩ := bb.sl.form; subst eb; (first | (have b8 := (Blk.new (World.drew W0) 34 #[.int .i64 0, .slice none 0 0, .slice none 0 0]).ext xb; have c80 : wb.cell? ⟨W0.heap.size, 0, none⟩ = some (.int .i64 0) := b8.cells.1 0; have c81 : wb.cell? ⟨W0.heap.size, 1, none⟩ = some (.slice none 0 0) := b8.cells.1 1; have c82 : wb.cell? ⟨W0.heap.size, 2, none⟩ = some (.slice none 0 0) := b8.cells.1 2; have f8 : ∀ i, wb.frozen? ⟨W0.heap.size, i, none⟩ = false := b8.cells.2) | skip)))
  all_goals
    first
      | (have hS0 : ∃ gx, gx = wb.heap.size ∧ Sx (wb.alloc (.cells #[.int .i64 s.version, .slice none 0 0, .slice Ab s.verdicts.length cb] 34)) W0.heap.size gx s.version (.slice none 0 0) (.slice Ab s.verdicts.length cb) [] s.verdicts [] :=
           ⟨_, rfl, Sx.new (ver := s.version) (rv := .slice none 0 0) (rs := []) (F := []) (Rows2.mk (Bld.nil wb W0.heap.size 72) bb (fun _ _ => ⟨(fun h => by cases h), (fun h => by cases h)⟩)) xb.size⟩
         have xs0 : Ext W0 (wb.alloc (.cells #[.int .i64 s.version, .slice none 0 0, .slice Ab s.verdicts.length cb] 34)) := ((Ext.refl W0).drew.trans xb).alloc _
         obtain ⟨Wx, hWx⟩ : ∃ Wx, Wx = (wb.alloc (.cells #[.int .i64 s.version, .slice none 0 0, .slice Ab s.verdicts.length cb] 34)) := ⟨_, rfl⟩
         rw [← hWx] at hS0 xs0 ⊢
         obtain ⟨gx, hgx, hS0⟩ := hS0
         rw [← hgx])
      | (have hS0 : ∃ gx, gx = W0.heap.size ∧ Sx (((wb.setCell ⟨W0.heap.size, 0, none⟩ (.int .i64 s.version)).setCell ⟨W0.heap.size, 1, none⟩ (.slice none 0 0)).setCell ⟨W0.heap.size, 2, none⟩ (.slice Ab s.verdicts.length cb)) W0.heap.size gx s.version (.slice none 0 0) (.slice Ab s.verdicts.length cb) [] s.verdicts [] := by
           have hsz0 : (W0.alloc (.cells #[.int .i64 0, .slice none 0 0, .slice none 0 0] 34)).drew.heap.size = W0.heap.size + 1 := by show (World.alloc _ _).heap.size = _; simp
           have hne : (Value.slice Ab s.verdicts.length cb).ownBlock ≠ some W0.heap.size := fun e => by
             have h1 := (bb.lt.2 _ e).2
             omega
           exact ⟨_, rfl, Blk.store3 b8 _ _ _, (Rows2.mk (Bld.nil wb W0.heap.size 72) (bb.lowv (by omega)) (fun _ _ => ⟨(fun h => by cases h), (fun h => by cases h)⟩)).kp (Kp.store3 W0.heap.size 0 _ _ _ _) (fun h => by cases h) (fun h => by cases h) hne, (fun h => by cases h), (fun h => by cases h), hne, Nat.le_refl _⟩
         have xs0 : Ext W0 (((wb.setCell ⟨W0.heap.size, 0, none⟩ (.int .i64 s.version)).setCell ⟨W0.heap.size, 1, none⟩ (.slice none 0 0)).setCell ⟨W0.heap.size, 2, none⟩ (.slice Ab s.verdicts.length cb)) := Ext.store3 ((((Ext.refl W0).alloc _).drew).trans xb) (Nat.le_refl _) _ _ _
         clear c80 c81 c82 f8 b8
         obtain ⟨Wx, hWx⟩ : ∃ Wx, Wx = (((wb.setCell ⟨W0.heap.size, 0, none⟩ (.int .i64 s.version)).setCell ⟨W0.heap.size, 1, none⟩ (.slice none 0 0)).setCell ⟨W0.heap.size, 2, none⟩ (.slice Ab s.verdicts.length cb)) := ⟨_, rfl⟩
         rw [← hWx] at hS0 xs0 ⊢
         obtain ⟨gx, hgx, hS0⟩ := hS0
         rw [← hgx])
    clear hWx hgx bb xb
    obtain ⟨q0, q1, q2⟩ := HP.out _ xs0
    go_wp2_with fail
    go_loopw [4] (fun i wr => ∃ (k : Nat) (rv : Value) (F : List Nat), k ≤ s.records.length ∧ i = .int .i64 k ∧ Sx wr W0.heap.size gx s.version rv (.slice Ab s.verdicts.length cb) (s.records.take k) s.verdicts F ∧ Ext W0 wr) (fun i _ => s.records.length - (intOf i).toNat)
    case atStart => exact ⟨0, _, _, Nat.zero_le _, rfl, hS0, xs0⟩
    case round =>
      clear hS0 xs0 q0 q1 q2
      obtain ⟨k, rv, F, hk, rfl, hS, hx⟩ := hrel
      obtain ⟨q0, q1, q2⟩ := HP.out _ hx
      obtain ⟨Ar, cr, er, _⟩ := hS.r.r.sl.form
      obtain ⟨n0, hn0⟩ : ∃ n, n = (s.records.take k).length := ⟨_, rfl⟩
      rw [← hn0] at er
      subst er
      have hn0k : n0 = k := by rw [hn0, List.length_take]; omega
      have HN0 := hid (And.intro hn0 hn0k)
      clear hn0 hn0k
      have hbase : W0.heap.size ≤ wr.heap.size := hx.size
      by_cases hlt : k < s.records.length
      · obtain ⟨b1, off, A2, cap2, eA, hok, hsl, c0, c1, c2, c3⟩ := ((hr.mono HX.out).mono hx).record hlt
        subst eA
        have hbk : s.records[k].fields.length ≤ 1048576 := hb.2 _ (List.getElem_mem hlt)
        have hrl : s.records.length ≤ 1048576 := hb.1
        go_wp2_with fail
        refine (spec_l8Copy _ s.records[k] _ ⟨_, rfl, hok, hsl⟩ (by omega)).mono ?_
        rintro e w2 ⟨v2, F2, rfl, ⟨f2, rfl, _, o2⟩, n2, x2⟩
        obtain ⟨A3, c3', e3, _⟩ := o2.form
        subst e3
        have x5 : Ext w2 (w2.alloc (.cells #[.int .i64 s.records[k].source, .int .i64 s.records[k].key, .int .i64 s.records[k].version, .slice A3 s.records[k].fields.length c3'] 72)) := (Ext.refl w2).alloc _
        have hz5 : w2.heap.size + 1 = (w2.alloc (.cells #[.int .i64 s.records[k].source, .int .i64 s.records[k].key, .int .i64 s.records[k].version, .slice A3 s.records[k].fields.length c3'] 72)).heap.size := by simp
        have hS5 := hS.ext (x2.trans x5)
        have HS5 := hid hS5
        have HS := hid hS
        have HO5 := hid (o2.ext x5)
        have HK5 := hid hok
        have HX5 := hid (x2.trans x5)
        have HZ5 := hid hz5
        have HNV := hid (show (Value.slice Ar n0 cr).ownBlock ≠ some w2.heap.size from fun e => by have := (hS.r.r.lt.2 _ e).1; have := x2.size; omega)
        have HFR := hid (show (∀ b ∈ F2, b ∉ F ∧ (Value.slice Ar n0 cr).ownBlock ≠ some b) ∧ F2.Nodup ∧ ∀ b ∈ F2, W0.heap.size ≤ b from ⟨fun b hb2 => ⟨fun h => by have := hS.r.r.lt.1 b h; have := n2.2 b hb2; omega, fun e => by have := (hS.r.r.lt.2 b e).1; have := n2.2 b hb2; omega⟩, n2.1, fun b hb2 => Nat.le_trans hbase (n2.2 b hb2)⟩)
        have HN2 := hid n2
        have hb5 : W0.heap.size ≤ (w2.alloc (.cells #[.int .i64 s.records[k].source, .int .i64 s.records[k].key, .int .i64 s.records[k].version, .slice A3 s.records[k].fields.length c3'] 72)).heap.size := Nat.le_trans hbase (x2.trans x5).size
        have hlen5 : (s.records.take k).length + 1 ≤ 1099511627776 := by rw [List.length_take]; omega
        have HL5 := hid hlen5
        obtain ⟨⟨g0, g1, g2⟩, gf⟩ := hS5.cells
        have HHB := hid hS.hb
        clear q0 q1 q2 c0 c1 c2 c3 hok hsl hS hS5 hz5 n2 o2 hlen5 hbk
        go_wp2_with (at_builtin; refine wpList_app1k (R := recordO) elemRec (by decide) rfl _ _ rfl HS5.out.r.r rfl _ 1 rfl (by simp) (one_rec _ _ _ _ _ _) (y := s.records[k]) (G := F2) ⟨_, rfl, HK5.out, HO5.out⟩ HFR.out HL5.out (by decide) hb5 ?_; intro v9 w9 hB9 hE9 hK9; have ip9 := InPl.of_app (F := F) HX5.out hE9 hK9 HN2.out.2 ⟨_, HZ5.out, HNV.out⟩; obtain ⟨A9, c9, e9, _⟩ := hB9.sl.form; obtain ⟨n9, hn9⟩ : ∃ n, n = (s.records.take k ++ [s.records[k]]).length := ⟨_, rfl⟩; rw [← hn9] at e9; subst e9; obtain ⟨b9, hS9⟩ := HS.out.putR hB9 ip9; have t1 := b9.cells.1 1; have tf := b9.cells.2 1; have HS9 := hid hS9; have HX9 := hid (fun u => (ip9.1 W0 (Nat.le_refl _) hx).setCell (p := ⟨gx, 1, none⟩) HHB.out u); clear hn9 hS9 ip9 hE9 hK9 hB9 b9)
        go_roundw
        case rel => exact ⟨k + 1, _, _, by omega, by go_num, by rw [List.take_succ_eq_append_getElem hlt]; exact HS9.out, HX9.out _⟩
        case measure => simp [intOf]; omega
      · have htk : s.records.take k = s.records := List.take_of_length_le (by omega)
        rw [htk] at hS
        have bz := HR.out _ hx
        obtain ⟨⟨z0, z1, z2⟩, zf⟩ := (⟨⟨bz.cells.1 0, bz.cells.1 1, bz.cells.1 2⟩, bz.cells.2⟩ : (_ ∧ _ ∧ _) ∧ _)
        obtain ⟨⟨g0, g1, g2⟩, gf⟩ := hS.cells
        have b9 := Blk.store3 bz (.int .i64 s.version) (.slice Ar n0 cr) (.slice Ab s.verdicts.length cb)
        have r0 := b9.cells.1 0
        have r1 := b9.cells.1 1
        have r2 := b9.cells.1 2
        have hs2 := HS.out
        have HFIN := hid (show StoNew w s (.returned (.agg #[.int .i64 s.version, .slice Ar n0 cr, .slice Ab s.verdicts.length cb])) (((wr.setCell ⟨w.heap.size + 1, 0, none⟩ (.int .i64 s.version)).setCell ⟨w.heap.size + 1, 1, none⟩ (.slice Ar n0 cr)).setCell ⟨w.heap.size + 1, 2, none⟩ (.slice Ab s.verdicts.length cb)) from by
          obtain ⟨n1, n2⟩ := hS.r.r.below (g := w.heap.size + 1) (by omega)
          obtain ⟨_, n3⟩ := hS.r.v.below (g := w.heap.size + 1) (by omega)
          exact ⟨_, _, F, rfl, (hS.r.kp (Kp.store3 (w.heap.size + 1) 0 _ _ _ _) n1 n2 n3).low (by omega), hI0.out, Ext.store3 (HX.out.trans hx) (by omega) _ _ _⟩)
        clear b9 bz hS htk
        go_wp2
        refine bodyPost_ret (v := .agg #[.int .i64 s.version, .slice Ar n0 cr, .slice Ab s.verdicts.length cb]) (by simp [results, Tryz.results34, go_sem, r0, r1, r2]) rfl ?_
        exact HFIN.out
end Go.Proofs.YtfcbapaojoecgaaGreat

namespace Go.Proofs.YtfcbapaojoecgaaGreat
open Go.RowKit

/-- data of w0: they own nothing here -/
def atO {α : Type} (R : Rep α) (w0 : World) : RepO α :=
  { n := R.n
    rd := fun _ cs x => R.rd w0 cs x
    len := R.len
    mono := fun _ h => h
    own := fun _ cs x F => R.rd w0 cs x ∧ F = []
    own_rd := fun h => h.1
    own_lt := fun h b hb => by rw [h.2] at hb; cases hb
    own_keep := fun _ h => h }
theorem Sl.of_at {α : Type} {R : Rep α} {w0 w : World} {v : Value} {xs : List α} (h : Sl (atO R w0).toRep w v xs) (e : Ext w0 w) : Sl R w v xs := by
  obtain ⟨A, cap, rfl, hm, hi⟩ := h
  refine ⟨A, cap, rfl, hm, fun i h => ?_⟩
  obtain ⟨b, off, cs, rfl, hr, hc⟩ := hi i h
  exact ⟨b, off, cs, rfl, R.mono e hr, hc⟩
end Go.Proofs.YtfcbapaojoecgaaGreat

namespace Go.Proofs.YtfcbapaojoecgaaGreat
open Go.RowKit

set_option maxHeartbeats 400000 in
set_option maxRecDepth 20000 in
theorem EqualFunc_rec (v u : Value) (xs ys : List Record) (fn : FuncId) (cp : Array Value) (w : World) (h : Sl recordR w v xs) (k : Sl recordR w u ys)
    (hfn : ∀ (args : Array Value) (W : World), Sem.run Tryz.prog (callFunc fn args) W = .ok (.enter fn args) W)
    (hf : ∀ wz a b x y, RecAt wz a x → RecAt wz b y → Calls Tryz.prog fn (#[a, b] ++ cp) wz fun e w2 => e = .returned (.bool (eqB x y)) ∧ Ext wz w2) :
    Calls Tryz.prog 67 #[v, u, .func (.func fn) #[] cp] w fun e w2 => e = .returned (.bool (eqB xs ys)) ∧ Ext w w2 := by
  obtain ⟨A, cap, rfl, hm⟩ := h.form
  obtain ⟨B, cap2, rfl, hm2⟩ := k.form
  by_cases hl : xs.length = ys.length
  · have hl' : ((xs.length : Int) != (ys.length : Int)) = false := by simp [hl]
    have HL := hid hl
    clear hl
    go_enter Tryz.func67, Tryz.ntmps67
    go_wp2
    go_loopw [17] (fun i wr => ∃ k2 : Nat, k2 ≤ xs.length ∧ i = .int .i64 k2 ∧ xs.take k2 = ys.take k2 ∧ Ext w wr) (fun i _ => xs.length - (intOf i).toNat)
    case atStart => exact ⟨0, Nat.zero_le _, rfl, by simp, Ext.refl _⟩
    case round =>
      obtain ⟨k2, hk, rfl, he, hx⟩ := hrel
      have HE := hid he
      clear he
      by_cases hlt : k2 < xs.length
      · have hlt2 : k2 < ys.length := by have := HL.out; omega
        obtain ⟨b, off, A2, cap3, rfl, hok, hi, hc0, hc1, hc2, hc3⟩ := (h.mono hx).record hlt
        obtain ⟨b2, off2, A3, cap4, rfl, hok2, hi2, hd0, hd1, hd2, hd3⟩ := (k.mono hx).record hlt2
        have xe : Ext wr (wr.alloc (.cells #[.int .i64 xs[k2].source, .int .i64 xs[k2].key, .int .i64 xs[k2].version, .slice A2 xs[k2].fields.length cap3] 72)) := (Ext.refl _).alloc _
        have y0 := xe.cell hd0
        have y1 := xe.cell hd1
        have y2 := xe.cell hd2
        have y3 := xe.cell hd3
        go_wp2_with fail
        refine (hf _ _ _ xs[k2] ys[k2] ⟨_, rfl, hok, hi.mono (by repeat (first | with_reducible exact Ext.refl _ | with_reducible assumption | with_reducible refine Ext.drew ?_ | with_reducible refine Ext.alloc ?_ _ | (refine Ext.setCell ?_ (by simp) _) | with_reducible refine Ext.trans ?_ (by with_reducible assumption)))⟩ ⟨_, rfl, hok2, hi2.mono (by repeat (first | with_reducible exact Ext.refl _ | with_reducible assumption | with_reducible refine Ext.drew ?_ | with_reducible refine Ext.alloc ?_ _ | (refine Ext.setCell ?_ (by simp) _) | with_reducible refine Ext.trans ?_ (by with_reducible assumption)))⟩).mono ?_
        rintro e w2 ⟨rfl, x2⟩
        clear xe
        by_cases h0 : xs[k2] = ys[k2]
        · rw [eqB_true h0]
          have H0 := hid h0
          clear h0
          go_wp2
          go_roundw
          case rel => exact ⟨k2 + 1, by omega, by go_num, take_snoc_eq hlt hlt2 H0.out HE.out, (by repeat (first | with_reducible exact Ext.refl _ | with_reducible assumption | with_reducible refine Ext.drew ?_ | with_reducible refine Ext.alloc ?_ _ | with_reducible refine Ext.trans ?_ (by with_reducible assumption)))⟩
          case measure => simp [intOf]; omega
        · rw [eqB_false h0]
          have H0 := hid h0
          clear h0
          go_wp2
          go_ret
          exact ⟨ret_bool (eqB_false (ne_of_at hlt hlt2 H0.out)).symm, (by repeat (first | with_reducible exact Ext.refl _ | with_reducible assumption | with_reducible refine Ext.drew ?_ | with_reducible refine Ext.alloc ?_ _ | with_reducible refine Ext.trans ?_ (by with_reducible assumption)))⟩
      · go_wp2
        go_ret
        exact ⟨ret_bool (eqB_true (eq_of_take hlt HL.out HE.out)).symm, hx⟩
  · have hl' : ((xs.length : Int) != (ys.length : Int)) = true := by simp; omega
    go_enter Tryz.func67, Tryz.ntmps67
    go_wp2
    go_ret
    exact ⟨ret_bool (eqB_false fun e => hl (by rw [e])).symm, Ext.refl _⟩

set_option maxHeartbeats 400000 in
set_option maxRecDepth 20000 in
theorem impl_EqualStores (v u : Value) (x y : Store) (w : World) (h : StoAt w v x) (k : StoAt w u y) :
    Calls Tryz.prog 25 #[v, u] w fun e w2 => e = .returned (.bool (eqB x y)) ∧ Ext w w2 := by
  obtain ⟨r, d, rfl, hI, hr, hd⟩ := h
  obtain ⟨r', d', rfl, hI', hr', hd'⟩ := k
  by_cases h1 : x.version = y.version
  · have b1 : (x.version == y.version) = true := by simp [h1]
    have H := hid h1
    clear h1
    go_enter Tryz.func25, Tryz.ntmps25
    go_wp2_with fail
    refine (EqualFunc_rec _ _ x.records y.records 68 #[] _ (hr.mono (by repeat (first | with_reducible exact Ext.refl _ | with_reducible assumption | with_reducible refine Ext.drew ?_ | with_reducible refine Ext.alloc ?_ _ | (refine Ext.setCell ?_ (by simp) _) | with_reducible refine Ext.trans ?_ (by with_reducible assumption)))) (hr'.mono (by repeat (first | with_reducible exact Ext.refl _ | with_reducible assumption | with_reducible refine Ext.drew ?_ | with_reducible refine Ext.alloc ?_ _ | (refine Ext.setCell ?_ (by simp) _) | with_reducible refine Ext.trans ?_ (by with_reducible assumption)))) (fun _ _ => by kernel_rfl) (fun wz a b x y hx hy => impl_equalRecords a b x y wz hx hy)).mono ?_
    rintro e w2 ⟨rfl, x2⟩
    have c1 := x2.box1.1
    have c0 := ((((Ext.refl _).alloc _) : Ext (w.alloc (.cells #[.int .i64 x.version, r, d] 34)) _).trans x2).box.1
    by_cases h4 : x.records = y.records
    · rw [eqB_true h4]
      have H4 := hid h4
      clear h4
      go_wp2_with fail
      refine (slices_Equal_v _ _ x.verdicts y.verdicts _ (hd.mono (by repeat (first | with_reducible exact Ext.refl _ | with_reducible assumption | with_reducible refine Ext.drew ?_ | with_reducible refine Ext.alloc ?_ _ | (refine Ext.setCell ?_ (by simp) _) | with_reducible refine Ext.trans ?_ (by with_reducible assumption)))) (hd'.mono (by repeat (first | with_reducible exact Ext.refl _ | with_reducible assumption | with_reducible refine Ext.drew ?_ | with_reducible refine Ext.alloc ?_ _ | (refine Ext.setCell ?_ (by simp) _) | with_reducible refine Ext.trans ?_ (by with_reducible assumption))))).mono ?_
      rintro e w3 ⟨rfl, x3⟩
      by_cases h5 : x.verdicts = y.verdicts
      · rw [eqB_true h5]
        have H5 := hid h5
        clear h5
        go_wp2
        go_ret
        exact ⟨ret_bool (eqB_true ((Store.eta x y).2 ⟨H.out, H4.out, H5.out⟩)).symm, (by repeat (first | with_reducible exact Ext.refl _ | with_reducible assumption | with_reducible refine Ext.drew ?_ | with_reducible refine Ext.alloc ?_ _ | (refine Ext.setCell ?_ (by simp) _) | with_reducible refine Ext.trans ?_ (by with_reducible assumption)))⟩
      · rw [eqB_false h5]
        have H5 := hid h5
        clear h5
        go_wp2
        go_ret
        exact ⟨ret_bool (eqB_false fun e => H5.out (by rw [e])).symm, (by repeat (first | with_reducible exact Ext.refl _ | with_reducible assumption | with_reducible refine Ext.drew ?_ | with_reducible refine Ext.alloc ?_ _ | (refine Ext.setCell ?_ (by simp) _) | with_reducible refine Ext.trans ?_ (by with_reducible assumption)))⟩
    · rw [eqB_false h4]
      have H4 := hid h4
      clear h4
      go_wp2
      go_ret
      exact ⟨ret_bool (eqB_false fun e => H4.out (by rw [e])).symm, (by repeat (first | with_reducible exact Ext.refl _ | with_reducible assumption | with_reducible refine Ext.drew ?_ | with_reducible refine Ext.alloc ?_ _ | (refine Ext.setCell ?_ (by simp) _) | with_reducible refine Ext.trans ?_ (by with_reducible assumption)))⟩
  · have b1 : (x.version == y.version) = false := by simp [h1]
    have H := hid h1
    clear h1
    go_enter Tryz.func25, Tryz.ntmps25
    go_wp2
    go_ret
    exact ⟨ret_bool (eqB_false fun e => H.out (by rw [e])).symm, (by repeat (first | with_reducible exact Ext.refl _ | with_reducible assumption | with_reducible refine Ext.drew ?_ | with_reducible refine Ext.alloc ?_ _ | (refine Ext.setCell ?_ (by simp) _) | with_reducible refine Ext.trans ?_ (by with_reducible assumption)))⟩

end Go.Proofs.YtfcbapaojoecgaaGreat

namespace Go.Proofs.YtfcbapaojoecgaaGreat
open Go.RowKit

def u8R : Rep Int := ⟨1, fun _ cs x => cs = [.int .u8 x] ∧ 0 ≤ x ∧ x ≤ 255, fun h => by simp [h.1], fun _ h => h⟩
theorem reads_u8 {P : Program} {e : TypeId} (he : P.underlying e = some (.int .u8)) (hc : P.cellsOf e = 1) : Reads P e u8R :=
  ⟨hc, fun h => by
    obtain ⟨n, rfl, _, hw⟩ := DataW.trod_int he h
    exact ⟨n, rfl, by simpa [Lit.wf, IntKind.min, IntKind.max, IntKind.signed, IntKind.bits] using hw⟩⟩
theorem Sl.u8 {w : World} {A : Option Addr} {n cap : Nat} {xs : List Int} (h : Sl u8R w (.slice A n cap) xs) {i : Nat} (hi : i < xs.length) :
    ∃ b off, A = some ⟨b, off, none⟩ ∧ (0 ≤ xs[i] ∧ xs[i] ≤ 255) ∧ w.cell? ⟨b, off + i, none⟩ = some (.int .u8 xs[i]) := by
  obtain ⟨b, off, cs, rfl, ⟨rfl, hr⟩, hc⟩ := h.at_ hi
  exact ⟨b, off, rfl, hr, by simpa [u8R] using hc 0 (by simp [u8R])⟩
theorem rU8 : Reads Tryz.prog 5 u8R := reads_u8 Tryz.underlying5 (by kernel_rfl)
theorem rBytes : Reads Tryz.prog 56 (slR u8R) := reads_slice Tryz.underlying56 (by kernel_rfl) (by decide) rU8

theorem i64_and255 (n : Int) : bits .and .i64 n 255 = n % 256 := by
  have h255 : (BitVec.ofInt 64 255).toNat = 2 ^ 8 - 1 := by decide
  have key : (BitVec.ofInt 64 n &&& BitVec.ofInt 64 255).toNat = (n % ((2 ^ 64 : Nat) : Int)).toNat % 2 ^ 8 := by
    rw [BitVec.toNat_and, BitVec.toNat_ofInt, h255, Nat.and_two_pow_sub_one_eq_mod]
  show IntKind.i64.wrap ((BitVec.ofInt 64 n &&& BitVec.ofInt 64 255).toNat : Nat) = n % 256
  rw [key, IntKind.wrap_i64]
  omega
theorem i64_and30 (n : Int) : bits .and .i64 n 1073741823 = n % 1073741824 := by
  have h255 : (BitVec.ofInt 64 1073741823).toNat = 2 ^ 30 - 1 := by decide
  have key : (BitVec.ofInt 64 n &&& BitVec.ofInt 64 1073741823).toNat = (n % ((2 ^ 64 : Nat) : Int)).toNat % 2 ^ 30 := by
    rw [BitVec.toNat_and, BitVec.toNat_ofInt, h255, Nat.and_two_pow_sub_one_eq_mod]
  show IntKind.i64.wrap ((BitVec.ofInt 64 n &&& BitVec.ofInt 64 1073741823).toNat : Nat) = n % 1073741824
  rw [key, IntKind.wrap_i64]
  omega

/-- the cursor lies in block g; its bytes lie in w0 -/
def Cur (w0 w : World) (g : Nat) : Prop := ∃ (A : Option Addr) (cap : Nat) (bs : List Int) (p : Nat) (h : Int), Sl u8R w0 (.slice A bs.length cap) bs ∧ Ext w0 w ∧ w0.heap.size ≤ g ∧
  Blk w g 136 [.slice A bs.length cap, .int .i64 p, .int .i64 h] ∧ p ≤ bs.length ∧ I64 h
/-- all old blocks stand but g -/
def Kept (g : Nat) (w w2 : World) : Prop := w.heap.size ≤ w2.heap.size ∧ ∀ b, b < w.heap.size → b ≠ g → w2.heap[b]? = w.heap[b]?
theorem Kept.refl (g : Nat) (w : World) : Kept g w w := ⟨Nat.le_refl _, fun _ _ _ => rfl⟩
theorem Kept.trans {g : Nat} {a b c : World} (h : Kept g a b) (k : Kept g b c) : Kept g a c := ⟨Nat.le_trans h.1 k.1, fun i hi hg => (k.2 i (Nat.lt_of_lt_of_le hi h.1) hg).trans (h.2 i hi hg)⟩
theorem Ext.kept {g : Nat} {a b : World} (h : Ext a b) : Kept g a b := ⟨h.size, fun _ hi _ => h.block hi⟩
theorem Kept.set (g k : Nat) (u : Value) (w : World) : Kept g w (w.setCell ⟨g, k, none⟩ u) := ⟨by simp, fun b _ hb => keep_setCell hb⟩
theorem Cur.keep {w0 w w2 : World} {g : Nat} (h : Cur w0 w g) (x : Ext w0 w2) (k : w2.heap[g]? = w.heap[g]?) : Cur w0 w2 g :=
  let ⟨A, cap, bs, p, hh, h1, _, h3, h4, h5⟩ := h; ⟨A, cap, bs, p, hh, h1, x, h3, h4.keep k, h5⟩
theorem Cur.ext {w0 w w2 : World} {g : Nat} (h : Cur w0 w g) (x : Ext w w2) : Cur w0 w2 g := by
  obtain ⟨A, cap, bs, p, hh, h1, h2, h3, h4, h5⟩ := h
  exact ⟨A, cap, bs, p, hh, h1, h2.trans x, h3, h4.ext x, h5⟩

set_option maxHeartbeats 400000 in
set_option maxRecDepth 20000 in
theorem spec_l1Byte (w0 w : World) (g : Nat) (hc : Cur w0 w g) :
    Calls Tryz.prog 155 #[.pointer (some ⟨g, 0, none⟩)] w fun e w2 => ∃ x, e = .returned (.int .i64 x) ∧ (0 ≤ x ∧ x ≤ 255) ∧ Cur w0 w2 g ∧ Kept g w w2 := by
  obtain ⟨A, cap, bs, p, h, hb, hx, hg, hB, hp, hI⟩ := hc
  have hm := hb.cap_
  have hI' := hI.out
  obtain ⟨c0, f0⟩ := hB.cells
  have c2 : w.cell? ⟨g, 2, none⟩ = some (.int .i64 h) := c0 2
  have f2 : w.frozen? ⟨g, 2, none⟩ = false := f0 2
  clear c0 f0
  obtain ⟨u, hu⟩ : ∃ u, u = wrap64 (wrap64 (h * 6364136223846793005) + 1442695040888963407) := ⟨_, rfl⟩
  have HU := hid hu
  have S1 : Blk (w.setCell ⟨g, 2, none⟩ (.int .i64 u)) g 136 [.slice A bs.length cap, .int .i64 p, .int .i64 u] := Blk.store (done := [.slice A bs.length cap, .int .i64 p]) (z := .int .i64 h) (rest := []) (k := 2) hB rfl (.int .i64 u)
  obtain ⟨W1, hW⟩ : ∃ W1, W1 = w.setCell ⟨g, 2, none⟩ (.int .i64 u) := ⟨_, rfl⟩
  have hu64 : I64 u := by rw [hu]; unfold I64 wrap64; omega
  have hx1 : Ext w0 W1 := by rw [hW]; exact hx.setCell (by simpa using hg) _
  have hk1 : Kept g w W1 := by rw [hW]; exact Kept.set _ _ _ _
  rw [← hW] at S1
  have HW := hid hW
  clear hu hW
  obtain ⟨c0, f0⟩ := S1.cells
  have d0 : ∀ z : ExtOf W1, z.1.cell? ⟨g, 0, none⟩ = some (.slice A bs.length cap) := fun z => z.2.cell (c0 0)
  have d1 : ∀ z : ExtOf W1, z.1.cell? ⟨g, 1, none⟩ = some (.int .i64 p) := fun z => z.2.cell (c0 1)
  have d2 : ∀ z : ExtOf W1, z.1.cell? ⟨g, 2, none⟩ = some (.int .i64 u) := fun z => z.2.cell (c0 2)
  clear c0 f0
  by_cases hlt : p < bs.length
  · obtain ⟨b, off, rfl, hbd, hcb⟩ := hb.u8 hlt
    have d3 : ∀ z : ExtOf W1, z.1.cell? ⟨b, off + p, none⟩ = some (.int .u8 bs[p]) := fun z => (hx1.trans z.2).cell hcb
    go_enter Tryz.func155, Tryz.ntmps155
    go_wp2_with fail
    rw [← HU.out, ← HW.out]
    refine wp_region_ext (by kernel_rfl) (by kernel_rfl) ?_
    repeat (go_big_quiet_step ((fail)))
    refine wpQuiet_nil ?_
    rintro w4 ⟨⟨_, x4⟩, rfl⟩
    have e0 : ∀ z : ExtOf w4, z.1.cell? ⟨g, 0, none⟩ = some (.slice (some ⟨b, off, none⟩) bs.length cap) := fun z => d0 ⟨_, x4.trans z.2⟩
    have e1 : ∀ z : ExtOf w4, z.1.cell? ⟨g, 1, none⟩ = some (.int .i64 p) := fun z => d1 ⟨_, x4.trans z.2⟩
    go_wp2_with fail
    refine wp_region_ext (by kernel_rfl) (by kernel_rfl) ?_
    repeat (go_big_quiet_step ((fail)))
    refine wpQuiet_nil ?_
    rintro w5 ⟨⟨_, x5⟩, rfl⟩
    have k0 : ∀ z : ExtOf w5, z.1.cell? ⟨g, 0, none⟩ = some (.slice (some ⟨b, off, none⟩) bs.length cap) := fun z => e0 ⟨_, x5.trans z.2⟩
    have k1 : ∀ z : ExtOf w5, z.1.cell? ⟨g, 1, none⟩ = some (.int .i64 p) := fun z => e1 ⟨_, x5.trans z.2⟩
    have k3 : ∀ z : ExtOf w5, z.1.cell? ⟨b, off + p, none⟩ = some (.int .u8 bs[p]) := fun z => d3 ⟨_, (x4.trans x5).trans z.2⟩
    go_wp2_with fail
    refine wp_region_ext (by kernel_rfl) (by kernel_rfl) ?_
    repeat (go_big_quiet_step ((fail)))
    refine wpQuiet_nil ?_
    rintro w6 ⟨⟨_, x6⟩, rfl⟩
    have S6 := S1.ext ((x4.trans x5).trans x6)
    have m1 := (S6.cells).1 1
    have n1 := (S6.cells).2 1
    have m1 : w6.cell? ⟨g, 1, none⟩ = some (.int .i64 p) := m1
    go_wp2
    go_ret
    refine ⟨_, rfl, ?_, ⟨_, _, bs, p + 1, u, hb, ((hx1.trans ((x4.trans x5).trans x6)).setCell (by simpa using hg) _), hg, ?_, hlt, hu64⟩, (hk1.trans ((x4.trans x5).trans x6).kept).trans (Kept.set _ _ _ _)⟩
    · rw [i64_and255]; omega
    · have := Blk.store (done := [.slice (some ⟨b, off, none⟩) bs.length cap]) (z := .int .i64 p) (rest := [.int .i64 u]) (k := 1) S6 rfl (.int .i64 ((p : Int) + 1))
      exact this
  · go_enter Tryz.func155, Tryz.ntmps155
    go_wp2_with fail
    rw [← HU.out, ← HW.out]
    refine wp_region_ext (by kernel_rfl) (by kernel_rfl) ?_
    repeat (go_big_quiet_step ((fail)))
    refine wpQuiet_nil ?_
    rintro w4 ⟨⟨_, x4⟩, rfl⟩
    have e0 : ∀ z : ExtOf w4, z.1.cell? ⟨g, 0, none⟩ = some (.slice A bs.length cap) := fun z => d0 ⟨_, x4.trans z.2⟩
    have e1 : ∀ z : ExtOf w4, z.1.cell? ⟨g, 1, none⟩ = some (.int .i64 p) := fun z => d1 ⟨_, x4.trans z.2⟩
    go_wp2_with fail
    refine wp_region_ext (by kernel_rfl) (by kernel_rfl) ?_
    repeat (go_big_quiet_step ((fail)))
    refine wpQuiet_nil ?_
    rintro w5 ⟨⟨_, x5⟩, rfl⟩
    go_wp2
    go_ret
    refine ⟨_, rfl, ?_, ⟨_, _, bs, p, u, hb, hx1.trans (x4.trans x5), hg, S1.ext (x4.trans x5), hp, hu64⟩, hk1.trans (x4.trans x5).kept⟩
    rw [i64_and255]; omega

set_option maxHeartbeats 400000 in
theorem spec_l1Below (w0 w : World) (g : Nat) (n : Int) (hn : 1 ≤ n ∧ n ≤ 256) (hc : Cur w0 w g) :
    Calls Tryz.prog 115 #[.pointer (some ⟨g, 0, none⟩), .int .i64 n] w fun e w2 => ∃ x, e = .returned (.int .i64 x) ∧ (0 ≤ x ∧ x < n) ∧ Cur w0 w2 g ∧ Kept g w w2 := by
  have hz : ¬ n = 0 := by omega
  go_enter Tryz.func115, Tryz.ntmps115
  go_wp2_with fail
  refine (spec_l1Byte w0 w g hc).mono ?_
  rintro e w2 ⟨x, rfl, hx, hc2, hk⟩
  go_wp2
  go_ret
  refine ⟨_, rfl, ?_, hc2, hk⟩
  first | exact ⟨Int.tmod_nonneg _ hx.1, Int.tmod_lt_of_pos _ (by omega)⟩ | exact ⟨Int.emod_nonneg _ (by omega), Int.emod_lt_of_pos _ (by omega)⟩

set_option maxHeartbeats 400000 in
theorem spec_l1Once (w0 w : World) (g : Nat) (n : Int) (hn : 1 ≤ n ∧ n ≤ 256) (hc : Cur w0 w g) :
    Calls Tryz.prog 75 #[.pointer (some ⟨g, 0, none⟩), .int .i64 n] w fun e w2 => ∃ x, e = .returned (.bool x) ∧ Cur w0 w2 g ∧ Kept g w w2 := by
  go_enter Tryz.func75, Tryz.ntmps75
  go_wp2_with fail
  refine (spec_l1Below w0 w g n hn hc).mono ?_
  rintro e w2 ⟨x, rfl, hx, hc2, hk⟩
  go_wp2
  go_ret
  exact ⟨_, rfl, hc2, hk⟩
end Go.Proofs.YtfcbapaojoecgaaGreat

namespace Go.Proofs.YtfcbapaojoecgaaGreat
open Go.RowKit

theorem Blk.new1 (w : World) (o : Obj) (T : TypeId) (cs : Array Value) : Blk ((w.alloc o).alloc (.cells cs T)) (w.heap.size + 1) T cs.toList := by
  have := Blk.new (w.alloc o) T cs
  simpa using this
theorem elemOp : ElemT Tryz.prog 38 76 opO.n 88 := by
  obtain ⟨i, h1, h2, h3, h4⟩ := info_parts infoOp
  exact ⟨Tryz.underlying38, i, _, h1, h2, h3, h4, rfl⟩
theorem one_op (o : Op) (A : Option Addr) (n c : Nat) : ∀ u ∈ (#[.int .i64 o.kind, .int .i64 o.record.source, .int .i64 o.record.key, .int .i64 o.record.version, .slice A n c, .int .i64 o.verdict.a, .int .i64 o.verdict.b, .bool o.verdict.same, .int .i64 o.verdict.time] : Array Value).toList, u.oneCell' = true := by simp [Value.oneCell']
end Go.Proofs.YtfcbapaojoecgaaGreat

namespace Go.Proofs.YtfcbapaojoecgaaGreat
open Go.RowKit

set_option maxHeartbeats 8000000 in
set_option maxRecDepth 100000 in
theorem impl_ApplyBatch2 (v u : Value) (s : Store) (b : Batch) (w : World) (h : StoAt w v s) (k : BatAt w u b) (hms : SzR s.records) (hmv : s.verdicts.length ≤ 1048576) :
    Calls Tryz.prog 11 #[v, u] w (AppOut w · · (appB s b)) := by
  obtain ⟨r, d, rfl, hI, hr, hd⟩ := h
  obtain ⟨o, rfl, _, ho⟩ := k
  obtain ⟨Ao, co, rfl, _⟩ := ho.form
  have xw : Ext w (((w.alloc (.cells #[.int .i64 s.version, r, d] 34)).alloc (.cells #[.slice Ao b.ops.length co] 40)).alloc (.cells #[.int .i64 0, .slice none 0 0, .slice none 0 0] 34)) := (((Ext.refl w).alloc _).alloc _).alloc _
  have bZ := Blk.new ((w.alloc (.cells #[.int .i64 s.version, r, d] 34)).alloc (.cells #[.slice Ao b.ops.length co] 40)) 34 #[.int .i64 0, .slice none 0 0, .slice none 0 0]
  have bB := (Blk.new (w.alloc (.cells #[.int .i64 s.version, r, d] 34)) 40 #[.slice Ao b.ops.length co]).ext ((Ext.refl _).alloc (.cells #[.int .i64 0, .slice none 0 0, .slice none 0 0] 34))
  have bS := (Blk.new w 34 #[.int .i64 s.version, r, d]).ext (((Ext.refl _).alloc (.cells #[.slice Ao b.ops.length co] 40)).alloc (.cells #[.int .i64 0, .slice none 0 0, .slice none 0 0] 34))
  obtain ⟨W3, hW3⟩ : ∃ W3, W3 = ((w.alloc (.cells #[.int .i64 s.version, r, d] 34)).alloc (.cells #[.slice Ao b.ops.length co] 40)).alloc (.cells #[.int .i64 0, .slice none 0 0, .slice none 0 0] 34) := ⟨_, rfl⟩
  have hsz : W3.heap.size = w.heap.size + 1 + 1 + 1 := by rw [hW3]; simp
  simp only [World.size_alloc] at bZ bB
  rw [← hW3] at bZ bB bS xw
  have HBX := hid (show ∀ W, Ext W3 W → (W.cell? ⟨w.heap.size, 0, none⟩ = some (.int .i64 s.version) ∧ W.cell? ⟨w.heap.size, 1, none⟩ = some r ∧ W.cell? ⟨w.heap.size, 2, none⟩ = some d) ∧ W.cell? ⟨w.heap.size + 1, 0, none⟩ = some (.slice Ao b.ops.length co) from fun W y => ⟨⟨(bS.ext y).cells.1 0, (bS.ext y).cells.1 1, (bS.ext y).cells.1 2⟩, (bB.ext y).cells.1 0⟩)
  have HZ := hid (show ∀ W, Ext W3 W → Blk W (w.heap.size + 1 + 1) 34 [.int .i64 0, .slice none 0 0, .slice none 0 0] from fun W y => bZ.ext y)
  have HAT := hid (show ∀ W, Ext W3 W → StoAt W (.agg #[.int .i64 s.version, r, d]) s from fun W y => ⟨_, _, rfl, hI, (hr.mono xw).mono y, (hd.mono xw).mono y⟩)
  have HOPS := hid (show ∀ W, Ext W3 W → Sl opR W (.slice Ao b.ops.length co) b.ops from fun W y => (ho.mono xw).mono y)
  have HS := hid hsz
  have HX := hid xw
  have HI := hid hI
  clear bZ bB bS xw hsz hr hd ho hI
  go_enter Tryz.func11, Tryz.ntmps11
  go_wp2_with fail
  rw [← hW3]
  clear hW3
  refine (impl_IsValidStore _ s _ (HAT.out _ (Ext.refl _))).mono ?_
  rintro e w1 ⟨rfl, x1⟩
  cases hs : okSto s with
  | false =>
    have HNO := hid (appB_no (s := s) (b := b) fun h => by rw [hs] at h; cases h.1)
    clear hs
    obtain ⟨⟨p0, p1, p2⟩, _⟩ := HBX.out _ (x1)
    go_wp2_with fail
    refine (impl_cloneStore2 _ s _ (HAT.out _ (x1)) hms hmv).mono ?_
    rintro e wc ⟨rv, vv, F, rfl, R, _, xc⟩
    clear p0 p1 p2
    have hbase : W3.heap.size ≤ w1.heap.size := (Ext.size (x1))
    have R3 := R.low hbase
    clear R
    obtain ⟨Ar, cr, er, _⟩ := (R3).r.sl.form
    subst er
    obtain ⟨Av, cv, ev, _⟩ := (R3).v.sl.form
    subst ev
    have bz := HZ.out _ ((x1).trans xc)
    obtain ⟨⟨z0, z1, z2⟩, zf⟩ := (⟨⟨bz.cells.1 0, bz.cells.1 1, bz.cells.1 2⟩, bz.cells.2⟩ : (_ ∧ _ ∧ _) ∧ _)
    have b9 := Blk.store3 bz (.int .i64 s.version) (.slice Ar (s.records).length cr) (.slice Av (s.verdicts).length cv)
    have r0 := b9.cells.1 0
    have r1 := b9.cells.1 1
    have r2 := b9.cells.1 2
    have HFIN := hid (show AppOut w (.returned (.tuple #[.agg #[.int .i64 s.version, .slice Ar (s.records).length cr, .slice Av (s.verdicts).length cv], .bool false])) (((wc.setCell ⟨w.heap.size + 1 + 1, 0, none⟩ (.int .i64 s.version)).setCell ⟨w.heap.size + 1 + 1, 1, none⟩ (.slice Ar (s.records).length cr)).setCell ⟨w.heap.size + 1 + 1, 2, none⟩ (.slice Av (s.verdicts).length cv)) (appB s b) from by
      have hsz := HS.out
      obtain ⟨n1, n2⟩ := (R3).r.below (g := w.heap.size + 1 + 1) (by omega)
      obtain ⟨_, n3⟩ := (R3).v.below (g := w.heap.size + 1 + 1) (by omega)
      rw [HNO.out]
      exact ⟨_, _, _, rfl, ((R3).kp (Kp.store3 (w.heap.size + 1 + 1) 0 _ _ _ _) n1 n2 n3).low (by omega), by first | exact HI.out | exact HIV.out, Ext.store3 (HX.out.trans ((x1).trans xc)) (by omega) _ _ _⟩)
    clear b9 bz
    go_wp2
    refine bodyPost_ret (v := .tuple #[.agg #[.int .i64 s.version, .slice Ar (s.records).length cr, .slice Av (s.verdicts).length cv], .bool false]) (by simp [results, Tryz.results11, go_sem, r0, r1, r2]) rfl ?_
    exact HFIN.out
  | true =>
    obtain ⟨⟨p0, p1, p2⟩, p3⟩ := HBX.out _ x1
    go_wp2_with fail
    refine (impl_IsValidBatch _ b _ ⟨_, rfl, trivial, HOPS.out _ x1⟩).mono ?_
    rintro e w2 ⟨rfl, x2⟩
    have x12 := x1.trans x2
    clear p0 p1 p2 p3 x1 x2
    cases hbt : okBat b with
    | false =>
      have HNO := hid (appB_no (s := s) (b := b) fun h => by rw [hbt] at h; cases h.2.1)
      clear hs hbt
      obtain ⟨⟨p0, p1, p2⟩, _⟩ := HBX.out _ (x12)
      go_wp2_with fail
      refine (impl_cloneStore2 _ s _ (HAT.out _ (x12)) hms hmv).mono ?_
      rintro e wc ⟨rv, vv, F, rfl, R, _, xc⟩
      clear p0 p1 p2
      have hbase : W3.heap.size ≤ w2.heap.size := (Ext.size (x12))
      have R3 := R.low hbase
      clear R
      obtain ⟨Ar, cr, er, _⟩ := (R3).r.sl.form
      subst er
      obtain ⟨Av, cv, ev, _⟩ := (R3).v.sl.form
      subst ev
      have bz := HZ.out _ ((x12).trans xc)
      obtain ⟨⟨z0, z1, z2⟩, zf⟩ := (⟨⟨bz.cells.1 0, bz.cells.1 1, bz.cells.1 2⟩, bz.cells.2⟩ : (_ ∧ _ ∧ _) ∧ _)
      have b9 := Blk.store3 bz (.int .i64 s.version) (.slice Ar (s.records).length cr) (.slice Av (s.verdicts).length cv)
      have r0 := b9.cells.1 0
      have r1 := b9.cells.1 1
      have r2 := b9.cells.1 2
      have HFIN := hid (show AppOut w (.returned (.tuple #[.agg #[.int .i64 s.version, .slice Ar (s.records).length cr, .slice Av (s.verdicts).length cv], .bool false])) (((wc.setCell ⟨w.heap.size + 1 + 1, 0, none⟩ (.int .i64 s.version)).setCell ⟨w.heap.size + 1 + 1, 1, none⟩ (.slice Ar (s.records).length cr)).setCell ⟨w.heap.size + 1 + 1, 2, none⟩ (.slice Av (s.verdicts).length cv)) (appB s b) from by
        have hsz := HS.out
        obtain ⟨n1, n2⟩ := (R3).r.below (g := w.heap.size + 1 + 1) (by omega)
        obtain ⟨_, n3⟩ := (R3).v.below (g := w.heap.size + 1 + 1) (by omega)
        rw [HNO.out]
        exact ⟨_, _, _, rfl, ((R3).kp (Kp.store3 (w.heap.size + 1 + 1) 0 _ _ _ _) n1 n2 n3).low (by omega), by first | exact HI.out | exact HIV.out, Ext.store3 (HX.out.trans ((x12).trans xc)) (by omega) _ _ _⟩)
      clear b9 bz
      go_wp2
      refine bodyPost_ret (v := .tuple #[.agg #[.int .i64 s.version, .slice Ar (s.records).length cr, .slice Av (s.verdicts).length cv], .bool false]) (by simp [results, Tryz.results11, go_sem, r0, r1, r2]) rfl ?_
      exact HFIN.out
    | true =>
      have hv : 0 ≤ s.version ∧ s.version ≤ 999 ∧ s.verdicts.length ≤ 8 := by
        have h1 := hs
        unfold okSto at h1
        simp only [Bool.and_eq_true, decide_eq_true_eq] at h1
        have h2 := inB_cases h1.1.1.2
        have h3 := (areVers_asc h1.2).2.2
        omega
      have hn6 : b.ops.length ≤ 6 := by
        have h1 := hbt
        unfold okBat at h1
        simp only [Bool.and_eq_true, decide_eq_true_eq] at h1
        exact h1.1
      obtain ⟨hv0, hv1, hv8⟩ := hv
      have HUP := hid (fun k (hk : k ≤ b.ops.length) => upR_ok hs hbt k hk)
      have HOK := hid (show ∀ o ∈ b.ops, okOp o = true from by
        have h1 := hbt
        unfold okBat at h1
        rw [Bool.and_eq_true] at h1
        exact fun o ho => List.all_eq_true.1 h1.2 o ho)
      have HSB := hid (And.intro hs hbt)
      clear hs hbt
      obtain ⟨⟨p0, p1, p2⟩, p3⟩ := HBX.out _ x12
      go_wp2_with fail
      refine (impl_cloneStore2 _ s _ (HAT.out _ x12) hms hmv).mono ?_
      rintro e wc ⟨rv, vv, F, rfl, R, _, xc⟩
      obtain ⟨Ar0, cr0, er0, _⟩ := R.r.sl.form
      subst er0
      obtain ⟨Av0, cv0, ev0, _⟩ := R.v.sl.form
      subst ev0
      have hS0 := Sx.new (ver := s.version + 1) (R.low (Ext.size x12)) (x12.trans xc).size
      have xs0 : Ext W3 (wc.alloc (.cells #[.int .i64 (s.version + 1), .slice Ar0 s.records.length cr0, .slice Av0 s.verdicts.length cv0] 34)) := (x12.trans xc).alloc _
      obtain ⟨q0, q1⟩ := HBX.out _ xs0
      clear p0 p1 p2 p3 R
      go_wp2_with fail
      obtain ⟨Wx, hWx⟩ : ∃ Wx, Wx = wc.alloc (.cells #[.int .i64 (s.version + 1), .slice Ar0 s.records.length cr0, .slice Av0 s.verdicts.length cv0] 34) := ⟨_, rfl⟩
      rw [← hWx] at hS0 xs0 q0 q1 ⊢
      obtain ⟨gx, hgx⟩ : ∃ gx, gx = wc.heap.size := ⟨_, rfl⟩
      rw [← hgx] at hS0 ⊢
      clear hWx hgx xc x12 q0 q1
      go_loopw [30] (fun i wr => ∃ (k : Nat) (rv vv : Value) (F : List Nat), k ≤ b.ops.length ∧ i = .int .i64 k ∧ Sx wr W3.heap.size gx (s.version + 1) rv vv ((b.ops.take k).foldl upR s.records) ((b.ops.take k).foldl upV s.verdicts) F ∧ Ext W3 wr) (fun i _ => b.ops.length - (intOf i).toNat)
      case atStart => exact ⟨0, _, _, _, Nat.zero_le _, rfl, hS0, xs0⟩
      case round =>
        obtain ⟨k, rv, vv, F, hk, rfl, hS, hx⟩ := hrel
        by_cases hlt : k < b.ops.length
        · obtain ⟨hup1, hup2, hup3⟩ := HUP.out k hk
          have HUR := hid (fold_step upR s.records b.ops k hlt)
          have HUV := hid (fold_step upV s.verdicts b.ops k hlt)
          have hvl := upV_len s.verdicts (b.ops.take k)
          have htl : (b.ops.take k).length ≤ 6 := by rw [List.length_take]; omega
          obtain ⟨b1, off, A2, cap2, eA, hok, hsl, c0, c1, c2, c3, c4, c5, c6, c7, c8⟩ := (HOPS.out _ hx).op hlt
          subst eA
          have hop : okOp b.ops[k] = true := HOK.out _ (List.getElem_mem hlt)
          have xb : Ext wr (wr.alloc (.cells #[.int .i64 b.ops[k].kind, .int .i64 b.ops[k].record.source, .int .i64 b.ops[k].record.key, .int .i64 b.ops[k].record.version, .slice A2 b.ops[k].record.fields.length cap2, .int .i64 b.ops[k].verdict.a, .int .i64 b.ops[k].verdict.b, .bool b.ops[k].verdict.same, .int .i64 b.ops[k].verdict.time] 76)) := (Ext.refl wr).alloc _
          have HOB := hid (show ∀ W, Ext (wr.alloc (.cells #[.int .i64 b.ops[k].kind, .int .i64 b.ops[k].record.source, .int .i64 b.ops[k].record.key, .int .i64 b.ops[k].record.version, .slice A2 b.ops[k].record.fields.length cap2, .int .i64 b.ops[k].verdict.a, .int .i64 b.ops[k].verdict.b, .bool b.ops[k].verdict.same, .int .i64 b.ops[k].verdict.time] 76)) W → W.cell? ⟨wr.heap.size, 0, none⟩ = some (.int .i64 b.ops[k].kind) ∧ OpCells W wr.heap.size b.ops[k] (.slice A2 b.ops[k].record.fields.length cap2) from fun W y => ⟨y.box.1 0, ⟨y.box.1 1, y.box.1 2, y.box.1 3, y.box.1 4⟩, y.box.1 5, y.box.1 6, y.box.1 7, y.box.1 8⟩)
          have hSb := hS.ext xb
          have hxb := hx.trans xb
          obtain ⟨Ar, cr, er, _⟩ := hS.r.r.sl.form
          subst er
          obtain ⟨Av, cv, ev, _⟩ := hS.r.v.sl.form
          subst ev
          obtain ⟨⟨g0, g1, g2⟩, gf⟩ := hSb.cells
          by_cases h1 : b.ops[k].kind = 1
          · have e1 : (b.ops[k].kind == 1) = true := by simp [h1]
            have hrec : okRec b.ops[k].record = true := by
              rw [okOp_1 h1, Bool.and_eq_true] at hop
              exact hop.1
            have HPUT := hid (impl_put _ _ _ F b.ops[k].record W3.heap.size (wr.alloc (.cells #[.int .i64 b.ops[k].kind, .int .i64 b.ops[k].record.source, .int .i64 b.ops[k].record.key, .int .i64 b.ops[k].record.version, .slice A2 b.ops[k].record.fields.length cap2, .int .i64 b.ops[k].verdict.a, .int .i64 b.ops[k].verdict.b, .bool b.ops[k].verdict.same, .int .i64 b.ops[k].verdict.time] 76)) hSb.r.r ⟨_, rfl, hok.2.1, hsl.mono xb⟩ hup1 (fun x hx => okH_of (hup2 x hx)) (okH_of hrec) (by omega) (by have := okRec_len hrec; omega) hxb.size)
            have HST := hid (show upR ((b.ops.take k).foldl upR s.records) b.ops[k] = putR ((b.ops.take k).foldl upR s.records) b.ops[k].record ∧ upV ((b.ops.take k).foldl upV s.verdicts) b.ops[k] = ((b.ops.take k).foldl upV s.verdicts) from ⟨by unfold upR; rw [if_pos h1], by unfold upV; rw [if_neg (by omega)]⟩)
            clear hup1 hup2 h1 hop hrec hok hsl
            go_wp2_with fail
            refine HPUT.out.mono ?_
            rintro e w5 ⟨v2, F2, rfl, hB2, ip⟩
            obtain ⟨Ar2, cr2, er2, _⟩ := hB2.sl.form
            subst er2
            obtain ⟨b5, hS5⟩ := hSb.putR hB2 ip
            have x5 := ip.1 W3 (Nat.le_refl _) hxb
            have t1 := b5.cells.1 1
            have tf := b5.cells.2 1
            have HS5 := hid hS5
            have HX5 := hid (x5.setCell (p := ⟨gx, 1, none⟩) hS.hb (.slice Ar2 (putR ((b.ops.take k).foldl upR s.records) b.ops[k].record).length cr2))
            clear hS5 x5 b5 ip hB2 g0 g1 g2 gf hSb hS
            go_wp2
            go_roundw
            case rel => exact ⟨k + 1, _, _, F2, by omega, by go_num, by rw [HUR.out, HUV.out, HST.out.1, HST.out.2]; exact HS5.out, HX5.out⟩
            case measure => simp [intOf]; omega
          · have e1 : (b.ops[k].kind == 1) = false := by simp [h1]
            by_cases h3 : b.ops[k].kind = 3
            · have e3 : (b.ops[k].kind == 3) = true := by simp [h3]
              have HST := hid (show upR ((b.ops.take k).foldl upR s.records) b.ops[k] = ((b.ops.take k).foldl upR s.records) ∧ upV ((b.ops.take k).foldl upV s.verdicts) b.ops[k] = ((b.ops.take k).foldl upV s.verdicts) ++ [b.ops[k].verdict] from ⟨by unfold upR; rw [if_neg h1], by unfold upV; rw [if_pos h3]⟩)
              have HVO := hid hok.2.2
              have HSb := hid hSb
              have HHB := hid hS.hb
              clear hup1 hup2 h1 h3 hop hok hsl
              go_wp2_with (at_builtin; refine wpList_app1k (R := verdictO) elemVer (by decide) rfl _ _ rfl HSb.out.r.v rfl _ 1 rfl (by simp) (one_ver _ _ _ _) (y := b.ops[k].verdict) ⟨⟨rfl, HVO.out⟩, rfl⟩ fresh_nil (by omega) (by decide) hxb.size ?_; intro v9 w9 hB9 hE9 hK9; obtain ⟨Av9, cv9, ev9, _⟩ := hB9.sl.form; subst ev9; obtain ⟨b5, hS5⟩ := HSb.out.putV hB9 (fun b0 hb0 hv0 => (hK9 [b0] (fun c hc => by rw [List.mem_singleton] at hc; rw [hc]; exact hb0) (fun c hc => by rw [List.mem_singleton] at hc; rw [hc]; exact hv0)).1 b0 (List.mem_singleton.2 rfl)) (fun g9 hg9 => by
                rcases Nat.lt_or_ge g9 (wr.alloc (.cells #[.int .i64 b.ops[k].kind, .int .i64 b.ops[k].record.source, .int .i64 b.ops[k].record.key, .int .i64 b.ops[k].record.version, .slice A2 b.ops[k].record.fields.length cap2, .int .i64 b.ops[k].verdict.a, .int .i64 b.ops[k].verdict.b, .bool b.ops[k].verdict.same, .int .i64 b.ops[k].verdict.time] 76)).heap.size with hlt9 | hge9
                · left
                  apply Classical.byContradiction
                  intro hne9
                  exact (hK9 [g9] (fun c hc => by rw [List.mem_singleton] at hc; rw [hc]; exact hlt9) (fun c hc => by rw [List.mem_singleton] at hc; rw [hc]; exact hne9)).2 g9 (List.mem_singleton.2 rfl) hg9
                · exact .inr hge9); have x5 := hE9 W3 (Nat.le_refl _) hxb; have t2 := b5.cells.1 2; have tf := b5.cells.2 2; simp only [List.length_append, List.length_singleton] at hS5; have HS5 := hid hS5; have HX5 := hid (fun u => x5.setCell (p := ⟨gx, 2, none⟩) HHB.out u); clear hS5 x5 b5 hE9 hK9 hB9)
              go_roundw
              case rel => exact ⟨k + 1, _, _, F, by omega, by go_num, by rw [HUR.out, HUV.out, HST.out.1, HST.out.2]; exact HS5.out, HX5.out _⟩
              case measure => simp [intOf]; omega
            · have e3 : (b.ops[k].kind == 3) = false := by simp [h3]
              have HST := hid (show upR ((b.ops.take k).foldl upR s.records) b.ops[k] = ((b.ops.take k).foldl upR s.records) ∧ upV ((b.ops.take k).foldl upV s.verdicts) b.ops[k] = ((b.ops.take k).foldl upV s.verdicts) from ⟨by unfold upR; rw [if_neg h1], by unfold upV; rw [if_neg h3]⟩)
              have HS5 := hid hSb
              clear hup1 hup2 h1 h3 hop hok hsl
              go_wp2
              go_roundw
              case rel => exact ⟨k + 1, _, _, F, by omega, by go_num, by rw [HUR.out, HUV.out, HST.out.1, HST.out.2]; exact HS5.out, hxb⟩
              case measure => simp [intOf]; omega
        · have hkn : (b.ops.take k) = b.ops := List.take_of_length_le (by omega)
          rw [hkn] at hS
          clear hkn
          obtain ⟨q0, q1⟩ := HBX.out _ hx
          have hrl : (b.ops.foldl upR s.records).length ≤ 14 := by
            have := (HUP.out b.ops.length (Nat.le_refl _)).2.2
            rw [List.take_length] at this
            omega
          have hvl : (b.ops.foldl upV s.verdicts).length ≤ 14 := by
            have := upV_len s.verdicts b.ops
            omega
          have HRL := hid (fun k => Nat.le_trans (dnR_sub (b.ops.foldl upR s.records) (b.ops.take k)).length_le hrl)
          have HVL := hid (fun k => Nat.le_trans (dnV_len (b.ops.foldl upV s.verdicts) (b.ops.take k)) hvl)
          clear hrl hvl
          go_wp2_with fail
          clear q0 q1
          go_loopw [57] (fun i wr => ∃ (k : Nat) (rv vv : Value) (F : List Nat), k ≤ b.ops.length ∧ i = .int .i64 k ∧ Sx wr W3.heap.size gx (s.version + 1) rv vv ((b.ops.take k).foldl dnR (b.ops.foldl upR s.records)) ((b.ops.take k).foldl dnV (b.ops.foldl upV s.verdicts)) F ∧ Ext W3 wr) (fun i _ => b.ops.length - (intOf i).toNat)
          case atStart => exact ⟨0, _, _, _, Nat.zero_le _, rfl, hS, hx⟩
          clear hS hx hlt hk
          case round =>
            obtain ⟨k, rv, vv, F, hk, rfl, hS, hx⟩ := hrel
            by_cases hlt : k < b.ops.length
            · have HUR := hid (fold_step dnR (b.ops.foldl upR s.records) b.ops k hlt)
              have HUV := hid (fold_step dnV (b.ops.foldl upV s.verdicts) b.ops k hlt)
              have hrl := HRL.out k
              have hvl := HVL.out k
              obtain ⟨b1, off, A2, cap2, eA, hok, hsl, c0, c1, c2, c3, c4, c5, c6, c7, c8⟩ := (HOPS.out _ hx).op hlt
              subst eA
              have hop : okOp b.ops[k] = true := HOK.out _ (List.getElem_mem hlt)
              have xb : Ext wr (wr.alloc (.cells #[.int .i64 b.ops[k].kind, .int .i64 b.ops[k].record.source, .int .i64 b.ops[k].record.key, .int .i64 b.ops[k].record.version, .slice A2 b.ops[k].record.fields.length cap2, .int .i64 b.ops[k].verdict.a, .int .i64 b.ops[k].verdict.b, .bool b.ops[k].verdict.same, .int .i64 b.ops[k].verdict.time] 76)) := (Ext.refl wr).alloc _
              have HOB := hid (show ∀ W, Ext (wr.alloc (.cells #[.int .i64 b.ops[k].kind, .int .i64 b.ops[k].record.source, .int .i64 b.ops[k].record.key, .int .i64 b.ops[k].record.version, .slice A2 b.ops[k].record.fields.length cap2, .int .i64 b.ops[k].verdict.a, .int .i64 b.ops[k].verdict.b, .bool b.ops[k].verdict.same, .int .i64 b.ops[k].verdict.time] 76)) W → W.cell? ⟨wr.heap.size, 0, none⟩ = some (.int .i64 b.ops[k].kind) ∧ OpCells W wr.heap.size b.ops[k] (.slice A2 b.ops[k].record.fields.length cap2) from fun W y => ⟨y.box.1 0, ⟨y.box.1 1, y.box.1 2, y.box.1 3, y.box.1 4⟩, y.box.1 5, y.box.1 6, y.box.1 7, y.box.1 8⟩)
              have hSb := hS.ext xb
              have hxb := hx.trans xb
              obtain ⟨Ar, cr, er, _⟩ := hS.r.r.sl.form
              subst er
              obtain ⟨Av, cv, ev, _⟩ := hS.r.v.sl.form
              subst ev
              obtain ⟨⟨g0, g1, g2⟩, gf⟩ := hSb.cells
              have hsize : wr.heap.size < (wr.alloc (.cells #[.int .i64 b.ops[k].kind, .int .i64 b.ops[k].record.source, .int .i64 b.ops[k].record.key, .int .i64 b.ops[k].record.version, .slice A2 b.ops[k].record.fields.length cap2, .int .i64 b.ops[k].verdict.a, .int .i64 b.ops[k].verdict.b, .bool b.ops[k].verdict.same, .int .i64 b.ops[k].verdict.time] 76)).heap.size := by simp
              have hnr : (Value.slice Ar ((b.ops.take k).foldl dnR (b.ops.foldl upR s.records)).length cr).ownBlock ≠ some wr.heap.size := fun e => by have := (hS.r.r.lt.2 _ e).1; omega
              have hnv : (Value.slice Av ((b.ops.take k).foldl dnV (b.ops.foldl upV s.verdicts)).length cv).ownBlock ≠ some wr.heap.size := fun e => by have := (hS.r.v.lt.2 _ e).1; omega
              by_cases h1 : b.ops[k].kind = 2
              · have e1 : (b.ops[k].kind == 2) = true := by simp [h1]
                have HPUT := hid (del_recs _ _ F b.ops[k] (.slice A2 b.ops[k].record.fields.length cap2) wr.heap.size W3.heap.size (wr.alloc (.cells #[.int .i64 b.ops[k].kind, .int .i64 b.ops[k].record.source, .int .i64 b.ops[k].record.key, .int .i64 b.ops[k].record.version, .slice A2 b.ops[k].record.fields.length cap2, .int .i64 b.ops[k].verdict.a, .int .i64 b.ops[k].verdict.b, .bool b.ops[k].verdict.same, .int .i64 b.ops[k].verdict.time] 76)) hSb.r.r (HOB.out _ (Ext.refl _)).2 hsize hnr (by omega))
                have HST := hid (show dnR ((b.ops.take k).foldl dnR (b.ops.foldl upR s.records)) b.ops[k] = delR ((b.ops.take k).foldl dnR (b.ops.foldl upR s.records)) b.ops[k].record ∧ dnV ((b.ops.take k).foldl dnV (b.ops.foldl upV s.verdicts)) b.ops[k] = ((b.ops.take k).foldl dnV (b.ops.foldl upV s.verdicts)) from ⟨by unfold dnR; rw [if_pos h1], by unfold dnV; rw [if_neg (by omega)]⟩)
                clear h1 hop hok hsl hnr hnv
                go_wp2_with fail
                refine HPUT.out.mono ?_
                rintro e w5 ⟨v2, F2, rfl, hB2, ip⟩
                obtain ⟨Ar2, cr2, er2, _⟩ := hB2.sl.form
                subst er2
                obtain ⟨b5, hS5⟩ := hSb.putR hB2 ip
                have x5 := ip.1 W3 (Nat.le_refl _) hxb
                have t1 := b5.cells.1 1
                have tf := b5.cells.2 1
                have HS5 := hid hS5
                have HX5 := hid (x5.setCell (p := ⟨gx, 1, none⟩) hS.hb (.slice Ar2 (delR ((b.ops.take k).foldl dnR (b.ops.foldl upR s.records)) b.ops[k].record).length cr2))
                clear hS5 x5 b5 ip hB2 g0 g1 g2 gf hSb hS
                go_wp2
                go_roundw
                case rel => exact ⟨k + 1, _, _, F2, by omega, by go_num, by rw [HUR.out, HUV.out, HST.out.1, HST.out.2]; exact HS5.out, HX5.out⟩
                case measure => simp [intOf]; omega
              · have e1 : (b.ops[k].kind == 2) = false := by simp [h1]
                by_cases h3 : b.ops[k].kind = 4
                · have e3 : (b.ops[k].kind == 4) = true := by simp [h3]
                  have HPUT := hid (del_vers _ _ b.ops[k] (.slice A2 b.ops[k].record.fields.length cap2) wr.heap.size W3.heap.size (wr.alloc (.cells #[.int .i64 b.ops[k].kind, .int .i64 b.ops[k].record.source, .int .i64 b.ops[k].record.key, .int .i64 b.ops[k].record.version, .slice A2 b.ops[k].record.fields.length cap2, .int .i64 b.ops[k].verdict.a, .int .i64 b.ops[k].verdict.b, .bool b.ops[k].verdict.same, .int .i64 b.ops[k].verdict.time] 76)) hSb.r.v (HOB.out _ (Ext.refl _)).2 hsize hnv (by omega))
                  have HST := hid (show dnR ((b.ops.take k).foldl dnR (b.ops.foldl upR s.records)) b.ops[k] = ((b.ops.take k).foldl dnR (b.ops.foldl upR s.records)) ∧ dnV ((b.ops.take k).foldl dnV (b.ops.foldl upV s.verdicts)) b.ops[k] = ((b.ops.take k).foldl dnV (b.ops.foldl upV s.verdicts)).filter (fun x => !eqB x b.ops[k].verdict) from ⟨by unfold dnR; rw [if_neg h1], by unfold dnV; rw [if_pos h3]⟩)
                  clear h1 h3 hop hok hsl hnr hnv
                  go_wp2_with fail
                  refine HPUT.out.mono ?_
                  rintro e w5 ⟨v2, rfl, hB2, ip⟩
                  obtain ⟨Av2, cv2, ev2, _⟩ := hB2.sl.form
                  subst ev2
                  obtain ⟨b5, hS5⟩ := hSb.putV hB2 ip.2.1 ip.2.2.2.2
                  have x5 := ip.1 W3 (Nat.le_refl _) hxb
                  have t1 := b5.cells.1 2
                  have tf := b5.cells.2 2
                  have HS5 := hid hS5
                  have HX5 := hid (x5.setCell (p := ⟨gx, 2, none⟩) hS.hb (.slice Av2 (((b.ops.take k).foldl dnV (b.ops.foldl upV s.verdicts)).filter (fun x => !eqB x b.ops[k].verdict)).length cv2))
                  clear hS5 x5 b5 ip hB2 g0 g1 g2 gf hSb hS
                  go_wp2
                  go_roundw
                  case rel => exact ⟨k + 1, _, _, F, by omega, by go_num, by rw [HUR.out, HUV.out, HST.out.1, HST.out.2]; exact HS5.out, HX5.out⟩
                  case measure => simp [intOf]; omega
                · have e3 : (b.ops[k].kind == 4) = false := by simp [h3]
                  have HST := hid (show dnR ((b.ops.take k).foldl dnR (b.ops.foldl upR s.records)) b.ops[k] = ((b.ops.take k).foldl dnR (b.ops.foldl upR s.records)) ∧ dnV ((b.ops.take k).foldl dnV (b.ops.foldl upV s.verdicts)) b.ops[k] = ((b.ops.take k).foldl dnV (b.ops.foldl upV s.verdicts)) from ⟨by unfold dnR; rw [if_neg h1], by unfold dnV; rw [if_neg h3]⟩)
                  have HS5 := hid hSb
                  clear h1 h3 hop hok hsl hnr hnv
                  go_wp2
                  go_roundw
                  case rel => exact ⟨k + 1, _, _, F, by omega, by go_num, by rw [HUR.out, HUV.out, HST.out.1, HST.out.2]; exact HS5.out, hxb⟩
                  case measure => simp [intOf]; omega
            · have hkn : (b.ops.take k) = b.ops := List.take_of_length_le (by omega)
              have hvl := HVL.out k
              rw [hkn] at hS hvl
              clear hkn hk
              obtain ⟨⟨g0, g1, g2⟩, gf⟩ := hS.cells
              go_wp2_with fail
              refine (sort_vers _ (b.ops.foldl dnV (b.ops.foldl upV s.verdicts)) W3.heap.size _ hS.r.v (by omega)).mono ?_
              rintro e w5 ⟨rfl, hB5, ip5⟩
              obtain ⟨b5, r5, n5⟩ := hS.inV hB5 ip5.2.1 ip5.2.2.2.2
              have hS5 : Sx w5 W3.heap.size gx (s.version + 1) rv vv (b.ops.foldl dnR (b.ops.foldl upR s.records)) (sortS (b.ops.foldl dnV (b.ops.foldl upV s.verdicts))) F := ⟨b5, r5, hS.nF, hS.nr, n5, hS.hb⟩
              have x5 := ip5.1 W3 (Nat.le_refl _) hx
              have hsl2 := sortS_len (b.ops.foldl dnV (b.ops.foldl upV s.verdicts))
              clear g0 g1 g2 gf hS hB5 ip5 b5 r5 n5 hx
              obtain ⟨⟨g0, g1, g2⟩, gf⟩ := hS5.cells
              go_wp2_with fail
              refine (comp_vers _ (sortS (b.ops.foldl dnV (b.ops.foldl upV s.verdicts))) W3.heap.size _ hS5.r.v (by omega)).mono ?_
              rintro e w6 ⟨v6, rfl, hB6, ip6⟩
              obtain ⟨Av, cv, ev6, _⟩ := hB6.sl.form
              subst ev6
              obtain ⟨b6, hS6⟩ := hS5.putV hB6 ip6.2.1 ip6.2.2.2.2
              have x6 := (ip6.1 W3 (Nat.le_refl _) x5).setCell (p := ⟨gx, 2, none⟩) hS5.hb (.slice Av (compV (sortS (b.ops.foldl dnV (b.ops.foldl upV s.verdicts)))).length cv)
              have t1 := b6.cells.1 2
              have tf := b6.cells.2 2
              clear g0 g1 g2 gf hS5 hB6 ip6 x5 b6 hsl2 hvl
              obtain ⟨⟨g0, g1, g2⟩, gf⟩ := hS6.cells
              have HIV := hid (show I64 (s.version + 1) from ⟨by omega, by omega⟩)
              go_wp2_with fail
              refine (impl_IsValidStore _ ⟨s.version + 1, (b.ops.foldl dnR (b.ops.foldl upR s.records)), compV (sortS (b.ops.foldl dnV (b.ops.foldl upV s.verdicts)))⟩ _ (hS6.at_ HIV.out)).mono ?_
              rintro e w7 ⟨rfl, x7⟩
              have x67 := x6.trans x7
              have hS7 := hS6.ext x7
              rw [show (⟨s.version + 1, (b.ops.foldl dnR (b.ops.foldl upR s.records)), compV (sortS (b.ops.foldl dnV (b.ops.foldl upV s.verdicts)))⟩ : Store) = newSto s b from rfl]
              clear g0 g1 g2 gf x6 x7 hS6 t1 tf
              cases hn : okSto (newSto s b) with
              | false =>
                have HNO := hid (appB_no (s := s) (b := b) fun h => by rw [hn] at h; cases h.2.2)
                clear hn hS7
                obtain ⟨⟨p0, p1, p2⟩, _⟩ := HBX.out _ (x67)
                go_wp2_with fail
                refine (impl_cloneStore2 _ s _ (HAT.out _ (x67)) hms hmv).mono ?_
                rintro e wc ⟨rv, vv, F, rfl, R, _, xc⟩
                clear p0 p1 p2
                have hbase : W3.heap.size ≤ w7.heap.size := (Ext.size (x67))
                have R3 := R.low hbase
                clear R
                obtain ⟨Ar, cr, er, _⟩ := (R3).r.sl.form
                subst er
                obtain ⟨Av, cv, ev, _⟩ := (R3).v.sl.form
                subst ev
                have bz := HZ.out _ ((x67).trans xc)
                obtain ⟨⟨z0, z1, z2⟩, zf⟩ := (⟨⟨bz.cells.1 0, bz.cells.1 1, bz.cells.1 2⟩, bz.cells.2⟩ : (_ ∧ _ ∧ _) ∧ _)
                have b9 := Blk.store3 bz (.int .i64 s.version) (.slice Ar (s.records).length cr) (.slice Av (s.verdicts).length cv)
                have r0 := b9.cells.1 0
                have r1 := b9.cells.1 1
                have r2 := b9.cells.1 2
                have HFIN := hid (show AppOut w (.returned (.tuple #[.agg #[.int .i64 s.version, .slice Ar (s.records).length cr, .slice Av (s.verdicts).length cv], .bool false])) (((wc.setCell ⟨w.heap.size + 1 + 1, 0, none⟩ (.int .i64 s.version)).setCell ⟨w.heap.size + 1 + 1, 1, none⟩ (.slice Ar (s.records).length cr)).setCell ⟨w.heap.size + 1 + 1, 2, none⟩ (.slice Av (s.verdicts).length cv)) (appB s b) from by
                  have hsz := HS.out
                  obtain ⟨n1, n2⟩ := (R3).r.below (g := w.heap.size + 1 + 1) (by omega)
                  obtain ⟨_, n3⟩ := (R3).v.below (g := w.heap.size + 1 + 1) (by omega)
                  rw [HNO.out]
                  exact ⟨_, _, _, rfl, ((R3).kp (Kp.store3 (w.heap.size + 1 + 1) 0 _ _ _ _) n1 n2 n3).low (by omega), by first | exact HI.out | exact HIV.out, Ext.store3 (HX.out.trans ((x67).trans xc)) (by omega) _ _ _⟩)
                clear b9 bz
                go_wp2
                refine bodyPost_ret (v := .tuple #[.agg #[.int .i64 s.version, .slice Ar (s.records).length cr, .slice Av (s.verdicts).length cv], .bool false]) (by simp [results, Tryz.results11, go_sem, r0, r1, r2]) rfl ?_
                exact HFIN.out
              | true =>
                have HNO := hid (appB_yes (s := s) (b := b) ⟨HSB.out.1, HSB.out.2, hn⟩)
                clear hn
                obtain ⟨⟨g0, g1, g2⟩, gf⟩ := hS7.cells
                have R3 := hS7.r
                have hbase := hS7.hb
                obtain ⟨Ar, cr, er, _⟩ := (R3).r.sl.form
                subst er
                have bz := HZ.out _ (x67)
                obtain ⟨⟨z0, z1, z2⟩, zf⟩ := (⟨⟨bz.cells.1 0, bz.cells.1 1, bz.cells.1 2⟩, bz.cells.2⟩ : (_ ∧ _ ∧ _) ∧ _)
                have b9 := Blk.store3 bz (.int .i64 (s.version + 1)) (.slice Ar ((b.ops.foldl dnR (b.ops.foldl upR s.records))).length cr) (.slice Av ((compV (sortS (b.ops.foldl dnV (b.ops.foldl upV s.verdicts))))).length cv)
                have r0 := b9.cells.1 0
                have r1 := b9.cells.1 1
                have r2 := b9.cells.1 2
                have HFIN := hid (show AppOut w (.returned (.tuple #[.agg #[.int .i64 (s.version + 1), .slice Ar ((b.ops.foldl dnR (b.ops.foldl upR s.records))).length cr, .slice Av ((compV (sortS (b.ops.foldl dnV (b.ops.foldl upV s.verdicts))))).length cv], .bool true])) (((w7.setCell ⟨w.heap.size + 1 + 1, 0, none⟩ (.int .i64 (s.version + 1))).setCell ⟨w.heap.size + 1 + 1, 1, none⟩ (.slice Ar ((b.ops.foldl dnR (b.ops.foldl upR s.records))).length cr)).setCell ⟨w.heap.size + 1 + 1, 2, none⟩ (.slice Av ((compV (sortS (b.ops.foldl dnV (b.ops.foldl upV s.verdicts))))).length cv)) (appB s b) from by
                  have hsz := HS.out
                  obtain ⟨n1, n2⟩ := (R3).r.below (g := w.heap.size + 1 + 1) (by omega)
                  obtain ⟨_, n3⟩ := (R3).v.below (g := w.heap.size + 1 + 1) (by omega)
                  rw [HNO.out]
                  exact ⟨_, _, _, rfl, ((R3).kp (Kp.store3 (w.heap.size + 1 + 1) 0 _ _ _ _) n1 n2 n3).low (by omega), by first | exact HI.out | exact HIV.out, Ext.store3 (HX.out.trans (x67)) (by omega) _ _ _⟩)
                clear b9 bz
                go_wp2
                refine bodyPost_ret (v := .tuple #[.agg #[.int .i64 (s.version + 1), .slice Ar ((b.ops.foldl dnR (b.ops.foldl upR s.records))).length cr, .slice Av ((compV (sortS (b.ops.foldl dnV (b.ops.foldl upV s.verdicts))))).length cv], .bool true]) (by simp [results, Tryz.results11, go_sem, r0, r1, r2]) rfl ?_
                exact HFIN.out

end Go.Proofs.YtfcbapaojoecgaaGreat

namespace Go.Proofs.YtfcbapaojoecgaaGreat
open Go.RowKit

theorem Cur.base {w0 w : World} {g : Nat} (h : Cur w0 w g) : Ext w0 w ∧ w0.heap.size ≤ g ∧ g < w.heap.size := by
  obtain ⟨A, cap, bs, p, hh, h1, h2, h3, h4, h5⟩ := h
  exact ⟨h2, h3, block_lt h4⟩
theorem Bld.kept {α : Type} {R : RepO α} {w w2 : World} {base g : Nat} {e : TypeId} {v : Value} {xs : List α} {F : List Nat} (h : Bld R w base e v xs F) (hg : g < base) (k : Kept g w w2) : Bld R w2 base e v xs F :=
  h.keep fun b hb hl => k.2 b hl (by omega)
theorem OwnSl.kept {α : Type} {R : RepO α} {w w2 : World} {g : Nat} {v : Value} {xs : List α} {F : List Nat} (h : OwnSl R w v xs F) (hg : g ∉ F) (k : Kept g w w2) : OwnSl R w2 v xs F :=
  h.keep fun b hb => k.2 b (h.lt b hb) (fun e => hg (e ▸ hb))
/-- an append; what it leaves, block by block -/
theorem wpList_app1g {P : Program} {α : Type} {R : RepO α} {ops : Array Oper} {rest : List Oper} {o : Oper} {a : Act} {W : World} {Q : Exit → Act → World → Prop} {t e : TypeId} {bytes : Nat} (E : ElemT P t e R.n bytes) (hsz : 0 < R.n)
    (hgd : o.guard = none) (s x : Operand) (ho : o.op = .call { callee := .builtin .append, args := #[s, x], argTypes := #[t, t] })
    {base : Nat} {v : Value} {xs : List α} {F : List Nat} (hb : Bld R W base e v xs F) (hs : a.eval s = v) {c : Array Value} {T : TypeId} (g k : Nat) (hx : a.eval x = .slice (some ⟨g, 0, none⟩) 1 k) (hg : g = W.heap.size)
    (h1 : ∀ u ∈ c.toList, u.oneCell' = true) {y : α} {G : List Nat} (hy : R.own W c.toList y G) (hG : (∀ b ∈ G, b ∉ F ∧ v.ownBlock ≠ some b) ∧ G.Nodup ∧ ∀ b ∈ G, base ≤ b)
    (hbytes : xs.length + 1 ≤ 1099511627776) (hby : bytes ≤ 128) (hbase : base ≤ W.heap.size)
    (h : ∀ v' w', Bld R w' base e v' (xs ++ [y]) (F ++ G) → (∀ w0 : World, w0.heap.size ≤ base → Ext w0 W → Ext w0 w') → W.heap.size ≤ w'.heap.size → (∀ b, b < base → w'.heap[b]? = W.heap[b]?) → wpList P ops Q rest (a.put o.dst v') w') :
    wpList P ops Q (o :: rest) a (W.alloc (.cells c T)) := by
  obtain ⟨ht, i, z, hi, hz, hsize, hby2, hzs⟩ := E
  have x1 : Ext W (W.alloc (.cells c T)) := (Ext.refl W).alloc _
  have hb1 := hb.ext x1
  have hl := hb1.lt
  obtain ⟨cs, b1, b2, b3, b4, b5⟩ := hb1
  have hy1 : R.own (W.alloc (.cells c T)) c.toList y G := R.own_keep (fun b hb => x1.block (R.own_lt hy b hb)) hy
  refine wpList_append_own_at (W.alloc (.cells c T)) hgd s x t ho base e i z R.n bytes ht hi hz hsize hby2 hzs hsz v xs.length cs hs b1 ⟨g, 0, none⟩ 1 k c.toList hx (by rw [R.len (R.own_rd hy), Nat.one_mul]) (fun j u hj => ?_) h1
    (by unfold maxLen; omega) (Nat.le_trans (Nat.mul_le_mul hbytes hby) (by decide)) (Nat.le_trans hbase x1.size) ?_
  · subst hg
    have : (W.alloc (.cells c T)).cell? ⟨W.heap.size, j, none⟩ = c[j]? := ((Ext.refl (W.alloc (.cells c T))).box).1 j
    rw [add_eq, Nat.zero_add, this]
    simpa using hj
  · intro v' w' hown hgr _ hat
    obtain ⟨h5, h6⟩ := bld_grown hl b2 b3 b4 b5 hy1 hG hown hgr hat
    refine h _ _ h5 (fun w0 h7 h8 => h6 w0 h7 (h8.trans x1)) (Nat.le_trans x1.size hgr.size) fun b hb => ?_
    have hbW : b < W.heap.size := by omega
    rw [hgr.block b (Nat.lt_of_lt_of_le hbW x1.size) (fun e => by have := (hl.2 b e.symm).2; omega), x1.block hbW]

set_option maxHeartbeats 400000 in
theorem spec_l1PickInt (w0 w : World) (g : Nat) (v : Value) (xs : List Int) (hl : 1 ≤ xs.length ∧ xs.length ≤ 256) (hc : Cur w0 w g) (hs : ∀ w2, Kept g w w2 → Sl intR w2 v xs) :
    Calls Tryz.prog 116 #[.pointer (some ⟨g, 0, none⟩), v] w fun e w2 => ∃ x, e = .returned (.int .i64 x) ∧ I64 x ∧ Cur w0 w2 g ∧ Kept g w w2 := by
  obtain ⟨A, cap, rfl, hm⟩ := (hs w (Kept.refl _ _)).form
  go_enter Tryz.func116, Tryz.ntmps116
  go_wp2_with fail
  refine (spec_l1Below w0 w g xs.length (by omega) hc).mono ?_
  rintro e w2 ⟨x, rfl, hx, hc2, hk⟩
  obtain ⟨j, rfl⟩ : ∃ j : Nat, x = j := ⟨x.toNat, by omega⟩
  have hj : j < xs.length := by omega
  obtain ⟨b, off, rfl, hI, hcell⟩ := (hs w2 hk).int hj
  go_wp2
  go_ret
  exact ⟨_, rfl, hI, hc2, hk⟩

set_option maxHeartbeats 400000 in
set_option maxRecDepth 20000 in
theorem spec_l1New (w : World) (v : Value) (bs : List Int) (h : Sl u8R w v bs) :
    Calls Tryz.prog 64 #[v] w fun e w2 => e = .returned (.pointer (some ⟨w.heap.size, 0, none⟩)) ∧ Cur w w2 w.heap.size ∧ Ext w w2 := by
  obtain ⟨A, cap, rfl, hm⟩ := h.form
  go_enter Tryz.func64, Tryz.ntmps64
  go_wp2
  go_loop [3, 4] (fun x i => ∃ (k : Nat) (u : Int), k ≤ bs.length ∧ i = .int .i64 k ∧ x = .int .i64 u ∧ I64 u) (fun _ i => bs.length - (intOf i).toNat)
  case atStart => exact ⟨0, _, Nat.zero_le _, rfl, rfl, by unfold I64; first | omega | (unfold wrap64; omega)⟩
  case round =>
    obtain ⟨k, u, hk, rfl, rfl, hu⟩ := hrel
    have hu' := hu.out
    by_cases hlt : k < bs.length
    · by_cases h4 : k < 4000
      · obtain ⟨b, off, rfl, hbd, hcb⟩ := h.u8 hlt
        go_wp2
        go_round
        case rel => exact ⟨k + 1, _, by omega, by go_num, rfl, by rw [i64_and30]; unfold I64; omega⟩
        case measure => simp [intOf]; omega
      · go_wp2
        go_ret
        exact ⟨rfl, ⟨A, cap, bs, 0, u, h, (Ext.refl _).alloc _, Nat.le_refl _, Blk.new w _ _, Nat.zero_le _, hu⟩, (Ext.refl _).alloc _⟩
    · go_wp2
      go_ret
      exact ⟨rfl, ⟨A, cap, bs, 0, u, h, (Ext.refl _).alloc _, Nat.le_refl _, Blk.new w _ _, Nat.zero_le _, hu⟩, (Ext.refl _).alloc _⟩

theorem lit_kept {w w2 : World} {g : Nat} {T : TypeId} {xs : List Int} {cs : Array Value} (hcs : cs.toList = xs.map (Value.int .i64)) (h : ∀ x ∈ xs, I64 x) (hl : xs.length ≤ maxLen) (hg : g < w.heap.size) (k : Kept g (w.alloc (.cells cs T)) w2) :
    OwnSl intO w2 (.slice (some ⟨w.heap.size, 0, none⟩) xs.length xs.length) xs [w.heap.size] := by
  have hb := Blk.new w T cs
  rw [hcs] at hb
  exact (OwnSl.of_blk hb hl (ints_cells _ _ h)).kept (by simp; omega) k

end Go.Proofs.YtfcbapaojoecgaaGreat

namespace Go.Proofs.YtfcbapaojoecgaaGreat
open Go.RowKit

set_option maxHeartbeats 2000000 in
set_option maxRecDepth 20000 in
theorem laws_turned (v : Value) (b : Batch) (w : World) (h : BatAt w v b) (hl : b.ops.length ≤ 1048576) :
    Calls Tryz.prog 26 #[v] w fun e w2 => ∃ v2, e = .returned (.agg #[v2]) ∧ Sl opR w2 v2 (revB b).ops ∧ Ext w w2 := by
  obtain ⟨f, rfl, _, hs⟩ := h
  obtain ⟨A, cap, rfl, hm⟩ := hs.form
  obtain ⟨W1, hW1⟩ : ∃ W, W = ((w.alloc (.cells #[.slice A b.ops.length cap] 40)).alloc (.cells #[.slice none 0 0] 40)).alloc (.cells #[.slice none 0 0] 40) := ⟨_, rfl⟩
  have xw : Ext w W1 := by rw [hW1]; exact (((Ext.refl w).alloc _).alloc _).alloc _
  have hsz : W1.heap.size = w.heap.size + 1 + 1 + 1 := by rw [hW1]; simp
  have bA : Blk W1 w.heap.size 40 [.slice A b.ops.length cap] := by rw [hW1]; exact ((Blk.new w 40 #[.slice A b.ops.length cap]).ext ((Ext.refl _).alloc _)).ext ((Ext.refl _).alloc _)
  have bR : Blk W1 (w.heap.size + 1) 40 [.slice none 0 0] := by
    have := (Blk.new (w.alloc (.cells #[.slice A b.ops.length cap] 40)) 40 #[.slice none 0 0]).ext ((Ext.refl _).alloc (.cells #[.slice none 0 0] 40))
    rw [World.size_alloc] at this
    rw [hW1]; exact this
  have bX : Blk W1 (w.heap.size + 1 + 1) 40 [.slice none 0 0] := by
    have := Blk.new ((w.alloc (.cells #[.slice A b.ops.length cap] 40)).alloc (.cells #[.slice none 0 0] 40)) 40 #[.slice none 0 0]
    rw [World.size_alloc, World.size_alloc] at this
    rw [hW1]; exact this
  have HS := hid hsz
  have HXW := hid xw
  have HSL := hid hs
  have cA := bA.cells.1 0
  go_enter Tryz.func26, Tryz.ntmps26
  go_wp2_with fail
  rw [← hW1]
  clear hW1 cA
  go_loopw [4] (fun i wr => ∃ (n : Nat) (xs : List Op) (vx : Value), n ≤ b.ops.length ∧ i = .int .i64 ((n : Int) - 1) ∧ Hid (xs = (b.ops.drop n).reverse) ∧ Bld (atO opR w) wr (w.heap.size + 1 + 1 + 1) 76 vx xs [] ∧ Blk wr (w.heap.size + 1 + 1) 40 [vx] ∧ Blk wr (w.heap.size + 1) 40 [.slice none 0 0] ∧ Blk wr w.heap.size 40 [.slice A b.ops.length cap] ∧ Ext w wr) (fun i _ => (intOf i + 1).toNat)
  case atStart => exact ⟨b.ops.length, [], _, Nat.le_refl _, rfl, hid (by rw [List.drop_length]; rfl), Bld.nil _ _ _, bX, bR, bA, HXW.out⟩
  case round =>
    clear bX bR bA
    obtain ⟨n, xs, vx, hn, rfl, hxs, hB, bX, bR, bA, hx⟩ := hrel
    obtain ⟨A9, c9, e9, _⟩ := hB.sl.form
    subst e9
    have hlx : xs.length ≤ 1048576 := by rw [hxs.out, List.length_reverse, List.length_drop]; omega
    have sX := block_lt bX
    by_cases hn0 : 0 < n
    · have hlt : n - 1 < b.ops.length := by omega
      have hsub : ((n - 1 : Nat) : Int) = (n : Int) - 1 := by omega
      have hlt2 : (n : Int) - 1 < (b.ops.length : Int) := by omega
      obtain ⟨ob, oo, A2, cap2, eA, hok, hsl, c0, c1, c2, c3, c4, c5, c6, c7, c8⟩ := HSL.out.op hlt
      subst eA
      have HC := hid (show ∀ W, Ext w W → W.cell? ⟨ob, oo + (n - 1) * 9, none⟩ = some (.int .i64 b.ops[n - 1].kind) ∧ W.cell? ⟨ob, oo + (n - 1) * 9 + 1, none⟩ = some (.int .i64 b.ops[n - 1].record.source) ∧ W.cell? ⟨ob, oo + (n - 1) * 9 + 2, none⟩ = some (.int .i64 b.ops[n - 1].record.key) ∧ W.cell? ⟨ob, oo + (n - 1) * 9 + 3, none⟩ = some (.int .i64 b.ops[n - 1].record.version) ∧ W.cell? ⟨ob, oo + (n - 1) * 9 + 4, none⟩ = some (.slice A2 b.ops[n - 1].record.fields.length cap2) ∧ W.cell? ⟨ob, oo + (n - 1) * 9 + 5, none⟩ = some (.int .i64 b.ops[n - 1].verdict.a) ∧ W.cell? ⟨ob, oo + (n - 1) * 9 + 6, none⟩ = some (.int .i64 b.ops[n - 1].verdict.b) ∧ W.cell? ⟨ob, oo + (n - 1) * 9 + 7, none⟩ = some (.bool b.ops[n - 1].verdict.same) ∧ W.cell? ⟨ob, oo + (n - 1) * 9 + 8, none⟩ = some (.int .i64 b.ops[n - 1].verdict.time) from fun W y => ⟨y.cell c0, y.cell c1, y.cell c2, y.cell c3, y.cell c4, y.cell c5, y.cell c6, y.cell c7, y.cell c8⟩)
      have HOWN := hid (show (atO opR w).own wr [.int .i64 b.ops[n - 1].kind, .int .i64 b.ops[n - 1].record.source, .int .i64 b.ops[n - 1].record.key, .int .i64 b.ops[n - 1].record.version, .slice A2 b.ops[n - 1].record.fields.length cap2, .int .i64 b.ops[n - 1].verdict.a, .int .i64 b.ops[n - 1].verdict.b, .bool b.ops[n - 1].verdict.same, .int .i64 b.ops[n - 1].verdict.time] b.ops[n - 1] [] from ⟨⟨_, rfl, hok, hsl⟩, rfl⟩)
      have HDR := hid (show (xs ++ [b.ops[n - 1]]) = (b.ops.drop (n - 1)).reverse from by
        have e1 : b.ops.drop (n - 1) = b.ops[n - 1] :: b.ops.drop n := by
          rw [List.drop_eq_getElem_cons hlt]; congr 2; omega
        rw [e1, List.reverse_cons, hxs.out])
      have HS0 := hid (show ∀ W, Ext wr W → (W.cell? ⟨w.heap.size + 1 + 1, 0, none⟩ = some (.slice A9 xs.length c9)) ∧ (W.cell? ⟨w.heap.size, 0, none⟩ = some (.slice (some ⟨ob, oo, none⟩) b.ops.length cap)) ∧ W.cell? ⟨ob, oo + (n - 1) * 9, none⟩ = some (.int .i64 b.ops[n - 1].kind) ∧ W.cell? ⟨ob, oo + (n - 1) * 9 + 1, none⟩ = some (.int .i64 b.ops[n - 1].record.source) ∧ W.cell? ⟨ob, oo + (n - 1) * 9 + 2, none⟩ = some (.int .i64 b.ops[n - 1].record.key) ∧ W.cell? ⟨ob, oo + (n - 1) * 9 + 3, none⟩ = some (.int .i64 b.ops[n - 1].record.version) ∧ W.cell? ⟨ob, oo + (n - 1) * 9 + 4, none⟩ = some (.slice A2 b.ops[n - 1].record.fields.length cap2) ∧ W.cell? ⟨ob, oo + (n - 1) * 9 + 5, none⟩ = some (.int .i64 b.ops[n - 1].verdict.a) ∧ W.cell? ⟨ob, oo + (n - 1) * 9 + 6, none⟩ = some (.int .i64 b.ops[n - 1].verdict.b) ∧ W.cell? ⟨ob, oo + (n - 1) * 9 + 7, none⟩ = some (.bool b.ops[n - 1].verdict.same) ∧ W.cell? ⟨ob, oo + (n - 1) * 9 + 8, none⟩ = some (.int .i64 b.ops[n - 1].verdict.time) from fun W y => ⟨(bX.ext y).cells.1 0, (bA.ext y).cells.1 0, HC.out _ (hx.trans y)⟩)
      have hs0 := HS0.out wr (Ext.refl _)
      have HBB := hid hB
      clear hok hsl c0 c1 c2 c3 c4 c5 c6 c7 c8 hB
      go_wp2_with fail
      refine wp_region_J 10 (fun w' => (w'.cell? ⟨w.heap.size + 1 + 1, 0, none⟩ = some (.slice A9 xs.length c9)) ∧ (w'.cell? ⟨w.heap.size, 0, none⟩ = some (.slice (some ⟨ob, oo, none⟩) b.ops.length cap)) ∧ w'.cell? ⟨ob, oo + (n - 1) * 9, none⟩ = some (.int .i64 b.ops[n - 1].kind) ∧ w'.cell? ⟨ob, oo + (n - 1) * 9 + 1, none⟩ = some (.int .i64 b.ops[n - 1].record.source) ∧ w'.cell? ⟨ob, oo + (n - 1) * 9 + 2, none⟩ = some (.int .i64 b.ops[n - 1].record.key) ∧ w'.cell? ⟨ob, oo + (n - 1) * 9 + 3, none⟩ = some (.int .i64 b.ops[n - 1].record.version) ∧ w'.cell? ⟨ob, oo + (n - 1) * 9 + 4, none⟩ = some (.slice A2 b.ops[n - 1].record.fields.length cap2) ∧ w'.cell? ⟨ob, oo + (n - 1) * 9 + 5, none⟩ = some (.int .i64 b.ops[n - 1].verdict.a) ∧ w'.cell? ⟨ob, oo + (n - 1) * 9 + 6, none⟩ = some (.int .i64 b.ops[n - 1].verdict.b) ∧ w'.cell? ⟨ob, oo + (n - 1) * 9 + 7, none⟩ = some (.bool b.ops[n - 1].verdict.same) ∧ w'.cell? ⟨ob, oo + (n - 1) * 9 + 8, none⟩ = some (.int .i64 b.ops[n - 1].verdict.time)) (by kernel_rfl) ?_
      refine wpAnyJ_take (i := 0) (v := ?v0t) (by simp only [List.getElem?_toArray, List.getElem?_cons_succ, List.getElem?_cons_zero, Option.some.injEq]; exact rfl) (by kernel_rfl) (by kernel_rfl) (by kernel_rfl) (by kernel_rfl) (by exact fun _ _ _ h => h) (Or.inl ⟨by rfl, fun w9 hS9 => ?hy0t⟩) (by exact hs0) ?rest0t
      case hy0t => (try dsimp only at hS9); go_simp <;> with_reducible rfl
      try simp only [Act.put, List.setIfInBounds_toArray, List.set_cons_zero, List.set_cons_succ]
      refine wpAnyJ_take (i := 1) (v := ?v1t) (by simp only [List.getElem?_toArray, List.getElem?_cons_succ, List.getElem?_cons_zero, Option.some.injEq]; exact rfl) (by kernel_rfl) (by kernel_rfl) (by kernel_rfl) (by kernel_rfl) (by exact fun _ _ _ h => h) (Or.inl ⟨by rfl, fun w9 hS9 => ?hy1t⟩) (by exact hs0) ?rest1t
      case hy1t => (try dsimp only at hS9); go_simp <;> with_reducible rfl
      try simp only [Act.put, List.setIfInBounds_toArray, List.set_cons_zero, List.set_cons_succ]
      refine wpAnyJ_take (i := 2) (v := ?v2t) (by simp only [List.getElem?_toArray, List.getElem?_cons_succ, List.getElem?_cons_zero, Option.some.injEq]; exact rfl) (by kernel_rfl) (by kernel_rfl) (by kernel_rfl) (by kernel_rfl) (by exact fun _ _ _ h => h) (Or.inl ⟨by rfl, fun w9 hS9 => ?hy2t⟩) (by exact hs0) ?rest2t
      case hy2t => (try dsimp only at hS9); go_simp <;> with_reducible rfl
      try simp only [Act.put, List.setIfInBounds_toArray, List.set_cons_zero, List.set_cons_succ]
      refine wpAnyJ_take (i := 3) (v := ?v3t) (by simp only [List.getElem?_toArray, List.getElem?_cons_succ, List.getElem?_cons_zero, Option.some.injEq]; exact rfl) (by kernel_rfl) (by kernel_rfl) (by kernel_rfl) (by kernel_rfl) (by exact fun _ _ _ h => h) (Or.inl ⟨by rfl, fun w9 hS9 => ?hy3t⟩) (by exact hs0) ?rest3t
      case hy3t => (try dsimp only at hS9); go_simp <;> with_reducible rfl
      try simp only [Act.put, List.setIfInBounds_toArray, List.set_cons_zero, List.set_cons_succ]
      refine wpAnyJ_take (i := 4) (v := ?v4t) (by simp only [List.getElem?_toArray, List.getElem?_cons_succ, List.getElem?_cons_zero, Option.some.injEq]; exact rfl) (by kernel_rfl) (by kernel_rfl) (by kernel_rfl) (by kernel_rfl) (by exact fun _ _ _ h => h) (Or.inl ⟨by rfl, fun w9 hS9 => ?hy4t⟩) (by exact hs0) ?rest4t
      case hy4t => (try dsimp only at hS9); go_simp <;> with_reducible rfl
      try simp only [Act.put, List.setIfInBounds_toArray, List.set_cons_zero, List.set_cons_succ]
      refine wpAnyJ_take (i := 5) (v := ?v5t) (by simp only [List.getElem?_toArray, List.getElem?_cons_succ, List.getElem?_cons_zero, Option.some.injEq]; exact rfl) (by kernel_rfl) (by kernel_rfl) (by kernel_rfl) (by kernel_rfl) (by exact fun _ _ _ h => h) (Or.inl ⟨by rfl, fun w9 hS9 => ?hy5t⟩) (by exact hs0) ?rest5t
      case hy5t => (try dsimp only at hS9); go_simp <;> with_reducible rfl
      try simp only [Act.put, List.setIfInBounds_toArray, List.set_cons_zero, List.set_cons_succ]
      refine wpAnyJ_take (i := 6) (v := ?v6t) (by simp only [List.getElem?_toArray, List.getElem?_cons_succ, List.getElem?_cons_zero, Option.some.injEq]; exact rfl) (by kernel_rfl) (by kernel_rfl) (by kernel_rfl) (by kernel_rfl) (by exact fun _ _ _ h => h) (Or.inl ⟨by rfl, fun w9 hS9 => ?hy6t⟩) (by exact hs0) ?rest6t
      case hy6t => (try dsimp only at hS9); go_simp <;> with_reducible rfl
      try simp only [Act.put, List.setIfInBounds_toArray, List.set_cons_zero, List.set_cons_succ]
      refine wpAnyJ_one (i := 7) (by simp only [List.getElem?_toArray, List.getElem?_cons_succ, List.getElem?_cons_zero, Option.some.injEq]; exact rfl) (by kernel_rfl) (fun K hK => ?_)
      go_simp
      have y4 : Ext wr (wr.drew.alloc (.cells #[.int .i64 b.ops[n - 1].kind, .int .i64 b.ops[n - 1].record.source, .int .i64 b.ops[n - 1].record.key, .int .i64 b.ops[n - 1].record.version, .slice A2 b.ops[n - 1].record.fields.length cap2, .int .i64 b.ops[n - 1].verdict.a, .int .i64 b.ops[n - 1].verdict.b, .bool b.ops[n - 1].verdict.same, .int .i64 b.ops[n - 1].verdict.time] 76)) := ((Ext.refl wr).drew).alloc _
      refine hK _ _ (HS0.out _ y4) ?_
      try simp only [Act.put, List.setIfInBounds_toArray, List.set_cons_zero, List.set_cons_succ]
      clear hK K
      have hBy := HBB.out.ext y4
      refine wpAnyJ_one (i := 8) (by simp only [List.getElem?_toArray, List.getElem?_cons_succ, List.getElem?_cons_zero, Option.some.injEq]; exact rfl) (by kernel_rfl) (fun K hK => ?_)
      refine step_app1k (R := atO opR w) elemOp (by show 0 < 9; decide) rfl _ _ rfl hBy rfl wr.heap.size 1 rfl (heap_alloc_new wr.drew (.cells #[.int .i64 b.ops[n - 1].kind, .int .i64 b.ops[n - 1].record.source, .int .i64 b.ops[n - 1].record.key, .int .i64 b.ops[n - 1].record.version, .slice A2 b.ops[n - 1].record.fields.length cap2, .int .i64 b.ops[n - 1].verdict.a, .int .i64 b.ops[n - 1].verdict.b, .bool b.ops[n - 1].verdict.same, .int .i64 b.ops[n - 1].verdict.time] 76)) (one_op _ _ _ _) (y := b.ops[n - 1]) (G := []) HOWN.out fresh_nil (by omega) (by decide) (by simp; omega) (w0 := w) (by omega) (hx.trans y4) ?_
      intro v9 w9 hB9 hx9 hk9
      obtain ⟨A5, c5, e5, _⟩ := hB9.sl.form
      obtain ⟨n5, hn5⟩ : ∃ m, m = (xs ++ [b.ops[n - 1]]).length := ⟨_, rfl⟩
      rw [← hn5] at e5
      subst e5
      clear hn5
      have hno : ∀ q, q < w.heap.size + 1 + 1 + 1 → (Value.slice A9 xs.length c9).ownBlock ≠ some q := fun q hq e => by have := (HBB.out.lt.2 q e).2; omega
      have hk9b : ∀ q, q < w.heap.size + 1 + 1 + 1 → w9.heap[q]? = wr.heap[q]? := fun q hq => (hk9 q (by simp; omega) (hno q hq)).trans (y4.block (by omega))
      have bX9 := bX.keep (hk9b _ (by omega))
      have bR9 := bR.keep (hk9b _ (by omega))
      have bA9 := bA.keep (hk9b _ (by omega))
      have HS9 : (w9.cell? ⟨w.heap.size + 1 + 1, 0, none⟩ = some (.slice A9 xs.length c9)) ∧ (w9.cell? ⟨w.heap.size, 0, none⟩ = some (.slice (some ⟨ob, oo, none⟩) b.ops.length cap)) ∧ w9.cell? ⟨ob, oo + (n - 1) * 9, none⟩ = some (.int .i64 b.ops[n - 1].kind) ∧ w9.cell? ⟨ob, oo + (n - 1) * 9 + 1, none⟩ = some (.int .i64 b.ops[n - 1].record.source) ∧ w9.cell? ⟨ob, oo + (n - 1) * 9 + 2, none⟩ = some (.int .i64 b.ops[n - 1].record.key) ∧ w9.cell? ⟨ob, oo + (n - 1) * 9 + 3, none⟩ = some (.int .i64 b.ops[n - 1].record.version) ∧ w9.cell? ⟨ob, oo + (n - 1) * 9 + 4, none⟩ = some (.slice A2 b.ops[n - 1].record.fields.length cap2) ∧ w9.cell? ⟨ob, oo + (n - 1) * 9 + 5, none⟩ = some (.int .i64 b.ops[n - 1].verdict.a) ∧ w9.cell? ⟨ob, oo + (n - 1) * 9 + 6, none⟩ = some (.int .i64 b.ops[n - 1].verdict.b) ∧ w9.cell? ⟨ob, oo + (n - 1) * 9 + 7, none⟩ = some (.bool b.ops[n - 1].verdict.same) ∧ w9.cell? ⟨ob, oo + (n - 1) * 9 + 8, none⟩ = some (.int .i64 b.ops[n - 1].verdict.time) := ⟨bX9.cells.1 0, bA9.cells.1 0, HC.out _ hx9⟩
      refine hK _ _ HS9 ?_
      try simp only [Act.put, List.setIfInBounds_toArray, List.set_cons_zero, List.set_cons_succ]
      clear hK K
      refine wpAnyJ_one (i := 9) (by simp only [List.getElem?_toArray, List.getElem?_cons_succ, List.getElem?_cons_zero, Option.some.injEq]; exact rfl) (by kernel_rfl) (fun K hK => ?_)
      go_simp
      refine hK _ _ HS9 ?_
      try simp only [Act.put, List.setIfInBounds_toArray, List.set_cons_zero, List.set_cons_succ]
      clear hK K
      have fX9 := bX9.cells.2 0
      have cX9 := bX9.cells.1 0
      refine wpAnyJ_last (by simp only [List.getElem?_toArray, List.getElem?_cons_succ, List.getElem?_cons_zero, Option.some.injEq]; exact rfl) (by kernel_rfl) (by kernel_rfl) (fun K hK => ?_)
      go_simp
      refine hK _ _ ?_
      clear hK K fX9 cX9
      have hv5 : (Value.slice A5 n5 c5).ownBlock ≠ some (w.heap.size + 1 + 1) := fun e => by have := (hB9.lt.2 _ e).2; omega
      have HFIN := hid (show Bld (atO opR w) (w9.setCell ⟨w.heap.size + 1 + 1, 0, none⟩ (.slice A5 n5 c5)) (w.heap.size + 1 + 1 + 1) 76 (.slice A5 n5 c5) (xs ++ [b.ops[n - 1]]) [] ∧ Blk (w9.setCell ⟨w.heap.size + 1 + 1, 0, none⟩ (.slice A5 n5 c5)) (w.heap.size + 1 + 1) 40 [.slice A5 n5 c5] ∧ Blk (w9.setCell ⟨w.heap.size + 1 + 1, 0, none⟩ (.slice A5 n5 c5)) (w.heap.size + 1) 40 [.slice none 0 0] ∧ Blk (w9.setCell ⟨w.heap.size + 1 + 1, 0, none⟩ (.slice A5 n5 c5)) w.heap.size 40 [.slice (some ⟨ob, oo, none⟩) b.ops.length cap] ∧ Ext w (w9.setCell ⟨w.heap.size + 1 + 1, 0, none⟩ (.slice A5 n5 c5)) from
        ⟨hB9.kp (Kp.set (w.heap.size + 1 + 1) 0 _ _) (fun hm => by cases hm) hv5, bX9.setAt 0 (by show 0 < 1; decide) _, bR9.other (by omega), bA9.other (by omega), hx9.setCell (p := ⟨w.heap.size + 1 + 1, 0, none⟩) (by show w.heap.size ≤ w.heap.size + 1 + 1; omega) _⟩)
      clear HS9 bX9 bR9 bA9 hB9 hx9 hk9 hk9b hno hv5 hs0 y4 hBy bX bR bA
      go_wp2
      go_roundw
      case rel => exact ⟨n - 1, _, _, by omega, by rw [hsub]; try go_num, hid HDR.out, HFIN.out.1, HFIN.out.2.1, HFIN.out.2.2.1, HFIN.out.2.2.2.1, HFIN.out.2.2.2.2⟩
      case measure => simp [intOf]; omega
    · obtain rfl : n = 0 := by omega
      have cX : wr.cell? ⟨w.heap.size + 1 + 1, 0, none⟩ = some (.slice A9 xs.length c9) := bX.cells.1 0
      obtain ⟨cR, fR⟩ := bR.cells
      have b9 : Blk (wr.setCell ⟨w.heap.size + 1, 0, none⟩ (.slice A9 xs.length c9)) (w.heap.size + 1) 40 [.slice A9 xs.length c9] := bR.setAt 0 (by show 0 < 1; decide) _
      have r0 : (wr.setCell ⟨w.heap.size + 1, 0, none⟩ (.slice A9 xs.length c9)).cell? ⟨w.heap.size + 1, 0, none⟩ = some (.slice A9 xs.length c9) := b9.cells.1 0
      have x9 : Ext w (wr.setCell ⟨w.heap.size + 1, 0, none⟩ (.slice A9 xs.length c9)) := hx.setCell (p := ⟨w.heap.size + 1, 0, none⟩) (Nat.le_succ _) _
      have HFIN := hid (show Sl opR (wr.setCell ⟨w.heap.size + 1, 0, none⟩ (.slice A9 xs.length c9)) (.slice A9 xs.length c9) (revB b).ops from by
        have h1 := (hB.kp (Kp.set (w.heap.size + 1) 0 (.slice A9 xs.length c9) wr) (fun hm => by cases hm) (fun e => by have := (hB.lt.2 _ e).2; omega)).sl
        have h2 := Sl.of_at h1 x9
        have e : xs = (revB b).ops := by rw [hxs.out]; rfl
        rw [← e]; exact h2)
      clear b9 hB bX bA
      go_wp2
      refine bodyPost_ret (v := .agg #[.slice A9 xs.length c9]) (by simp [results, Tryz.results26, go_sem, r0]) rfl ?_
      exact ⟨_, rfl, HFIN.out, x9⟩

end Go.Proofs.YtfcbapaojoecgaaGreat

namespace Go.Proofs.YtfcbapaojoecgaaGreat
open Go.RowKit

set_option maxHeartbeats 400000 in
theorem laws_big (v : Value) (bs : List Int) (w : World) (h : Sl u8R w v bs) :
    Calls Tryz.prog 23 #[v] w fun e w2 => e = .returned (.bool (decide (1048576 < bs.length))) ∧ w = w2 := by
  obtain ⟨A, cap, rfl, hm⟩ := h.form
  go_enter Tryz.func23, Tryz.ntmps23
  go_wp2
  go_ret
  exact ⟨ret_bool (by simp; try omega), rfl⟩
end Go.Proofs.YtfcbapaojoecgaaGreat

namespace Go.Proofs.YtfcbapaojoecgaaGreat
open Go.RowKit

theorem Kept.alloc {g : Nat} {w w2 : World} (h : Kept g w w2) (o : Obj) : Kept g w (w2.alloc o) := h.trans (Ext.kept ((Ext.refl _).alloc _))
theorem Kept.drew {g : Nat} {w w2 : World} (h : Kept g w w2) : Kept g w w2.drew := h.trans (Ext.kept (Ext.refl _).drew)
theorem Kept.setN {g : Nat} {w w2 : World} (h : Kept g w w2) {p : Addr} (hp : w.heap.size ≤ p.block) (u : Value) : Kept g w (w2.setCell p u) :=
  ⟨by rw [World.size_setCell]; exact h.1, fun b hb hne => (keep_setCell (fun e => by omega)).trans (h.2 b hb hne)⟩
theorem Cur.setN {w0 w : World} {g : Nat} (h : Cur w0 w g) {p : Addr} (hp : g < p.block) (u : Value) : Cur w0 (w.setCell p u) g :=
  h.keep (h.base.1.setCell (by have := h.base.2.1; omega) u) (keep_setCell (by omega))
theorem Blk.kept {w w2 : World} {b g : Nat} {e : TypeId} {cs : List Value} (h : Blk w b e cs) (hne : b ≠ g) (k : Kept g w w2) : Blk w2 b e cs := h.keep (k.2 b (block_lt h) hne)
theorem Cur.alloc {w0 w : World} {g : Nat} (h : Cur w0 w g) (o : Obj) : Cur w0 (w.alloc o) g := h.ext ((Ext.refl w).alloc o)
theorem Cur.drew {w0 w : World} {g : Nat} (h : Cur w0 w g) : Cur w0 w.drew g := h.ext (Ext.refl w).drew
/-- a verdict that was drawn -/
def VerDrawn (w0 w : World) (g : Nat) (e : Ending) (w2 : World) : Prop := ∃ v : Verdict, e = .returned (.agg #[.int .i64 v.a, .int .i64 v.b, .bool v.same, .int .i64 v.time]) ∧ v.ok ∧ Cur w0 w2 g ∧ Kept g w w2

set_option maxHeartbeats 400000 in
theorem spec_l28Member (w0 w : World) (g : Nat) (hc : Cur w0 w g) :
    Calls Tryz.prog 171 #[.pointer (some ⟨g, 0, none⟩)] w fun e w2 => ∃ x, e = .returned (.int .i64 x) ∧ (0 ≤ x ∧ x ≤ 400) ∧ Cur w0 w2 g ∧ Kept g w w2 := by
  go_enter Tryz.func171, Tryz.ntmps171
  go_wp2_with fail
  refine (spec_l1Below w0 _ g 3 (by decide) hc).mono ?_
  rintro e w2 ⟨x1, rfl, hx1, hc2, hk2⟩
  have hg2 := hc2.base.2.2
  go_wp2_with fail
  refine (spec_l1Below w0 _ g 2 (by decide) hc2).mono ?_
  rintro e w3 ⟨x2, rfl, hx2, hc3, hk3⟩
  have hg3 := hc3.base.2.2
  go_wp2
  go_ret
  exact ⟨_, rfl, by omega, hc3, hk2.trans hk3⟩

set_option maxHeartbeats 400000 in
set_option maxRecDepth 20000 in
theorem spec_l28Verdict (w0 w : World) (g : Nat) (hc : Cur w0 w g) :
    Calls Tryz.prog 157 #[.pointer (some ⟨g, 0, none⟩)] w (VerDrawn w0 w g) := by
  have hg := hc.base.2.2
  have hc0 := hc.ext ((Ext.refl w).alloc (.cells #[.int .i64 0, .int .i64 0, .bool false, .int .i64 0] 74))
  have k0 := Ext.kept (g := g) ((Ext.refl w).alloc (.cells #[.int .i64 0, .int .i64 0, .bool false, .int .i64 0] 74))
  have b0 := Blk.new w 74 #[.int .i64 0, .int .i64 0, .bool false, .int .i64 0]
  go_enter Tryz.func157, Tryz.ntmps157
  go_wp2_with fail
  refine (spec_l28Member w0 _ g hc0).mono ?_
  rintro e w2 ⟨a, rfl, ha, hc2, hk2⟩
  have hg2 := hc2.base.2.2
  go_wp2_with fail
  refine (spec_l28Member w0 _ g hc2).mono ?_
  rintro e w3 ⟨b, rfl, hb, hc3, hk3⟩
  have hg3 := hc3.base.2.2
  have hk23 := hk2.trans hk3
  clear hk2 hk3
  rcases Int.lt_trichotomy a b with h | h | h
  · have hm1 : min a b = a := by omega
    have hm2 : max a b = b := by omega
    go_wp2_with fail
    refine (spec_l1Once w0 _ g 3 (by decide) hc3).mono ?_
    rintro e w4 ⟨s, rfl, hc4, hk4⟩
    have hg4 := hc4.base.2.2
    go_wp2_with fail
    refine (spec_l1Below w0 _ g 6 (by decide) hc4).mono ?_
    rintro e w5 ⟨x4, rfl, hx4, hc5, hk5⟩
    have hg5 := hc5.base.2.2
    have hk35 := hk4.trans hk5
    have hk := k0.trans (hk23.trans hk35)
    have bR := b0.kept (Nat.ne_of_gt hg) (hk23.trans hk35)
    have HI := hid (show Verdict.ok ⟨a, b, !s, 1 + x4⟩ from ⟨by simp only [I64]; omega, by simp only [I64]; omega, by simp only [I64]; omega⟩)
    clear hc hc0 k0 b0 hc2 hc3 hc4 hk23 hk4 hk5 hk35 hg2 hg3 hg4
    obtain ⟨cR, fR⟩ := bR.cells
    go_wp2
    have b9 : Blk ((((w5.setCell ⟨w.heap.size, 0, none⟩ (.int .i64 (a))).setCell ⟨w.heap.size, 1, none⟩ (.int .i64 (b))).setCell ⟨w.heap.size, 2, none⟩ (.bool (!s))).setCell ⟨w.heap.size, 3, none⟩ (.int .i64 (1 + x4))) w.heap.size 74 [.int .i64 (a), .int .i64 (b), .bool (!s), .int .i64 (1 + x4)] := ((((bR.setAt 0 (by show 0 < 4; decide) (.int .i64 (a))).setAt 1 (by show 1 < 4; decide) (.int .i64 (b))).setAt 2 (by show 2 < 4; decide) (.bool (!s))).setAt 3 (by show 3 < 4; decide) (.int .i64 (1 + x4)))
    have r0 : ((((w5.setCell ⟨w.heap.size, 0, none⟩ (.int .i64 (a))).setCell ⟨w.heap.size, 1, none⟩ (.int .i64 (b))).setCell ⟨w.heap.size, 2, none⟩ (.bool (!s))).setCell ⟨w.heap.size, 3, none⟩ (.int .i64 (1 + x4))).cell? ⟨w.heap.size, 0, none⟩ = some (.int .i64 (a)) := b9.cells.1 0
    have r1 : ((((w5.setCell ⟨w.heap.size, 0, none⟩ (.int .i64 (a))).setCell ⟨w.heap.size, 1, none⟩ (.int .i64 (b))).setCell ⟨w.heap.size, 2, none⟩ (.bool (!s))).setCell ⟨w.heap.size, 3, none⟩ (.int .i64 (1 + x4))).cell? ⟨w.heap.size, 1, none⟩ = some (.int .i64 (b)) := b9.cells.1 1
    have r2 : ((((w5.setCell ⟨w.heap.size, 0, none⟩ (.int .i64 (a))).setCell ⟨w.heap.size, 1, none⟩ (.int .i64 (b))).setCell ⟨w.heap.size, 2, none⟩ (.bool (!s))).setCell ⟨w.heap.size, 3, none⟩ (.int .i64 (1 + x4))).cell? ⟨w.heap.size, 2, none⟩ = some (.bool (!s)) := b9.cells.1 2
    have r3 : ((((w5.setCell ⟨w.heap.size, 0, none⟩ (.int .i64 (a))).setCell ⟨w.heap.size, 1, none⟩ (.int .i64 (b))).setCell ⟨w.heap.size, 2, none⟩ (.bool (!s))).setCell ⟨w.heap.size, 3, none⟩ (.int .i64 (1 + x4))).cell? ⟨w.heap.size, 3, none⟩ = some (.int .i64 (1 + x4)) := b9.cells.1 3
    have k9 : Kept g w ((((w5.setCell ⟨w.heap.size, 0, none⟩ (.int .i64 (a))).setCell ⟨w.heap.size, 1, none⟩ (.int .i64 (b))).setCell ⟨w.heap.size, 2, none⟩ (.bool (!s))).setCell ⟨w.heap.size, 3, none⟩ (.int .i64 (1 + x4))) := ((((hk.setN (Nat.le_refl _) _).setN (Nat.le_refl _) _).setN (Nat.le_refl _) _).setN (Nat.le_refl _) _)
    have c9 : Cur w0 ((((w5.setCell ⟨w.heap.size, 0, none⟩ (.int .i64 (a))).setCell ⟨w.heap.size, 1, none⟩ (.int .i64 (b))).setCell ⟨w.heap.size, 2, none⟩ (.bool (!s))).setCell ⟨w.heap.size, 3, none⟩ (.int .i64 (1 + x4))) g := ((((hc5.setN hg _).setN hg _).setN hg _).setN hg _)
    refine bodyPost_ret (v := .agg #[.int .i64 (a), .int .i64 (b), .bool (!s), .int .i64 (1 + x4)]) (by simp [results, Tryz.results157, go_sem, r0, r1, r2, r3]) rfl ?_
    exact ⟨⟨a, b, !s, 1 + x4⟩, rfl, HI.out, c9, k9⟩
  · subst h
    have hm1 : min a (a + 1) = a := by omega
    have hm2 : max a (a + 1) = a + 1 := by omega
    go_wp2_with fail
    refine (spec_l1Once w0 _ g 3 (by decide) hc3).mono ?_
    rintro e w4 ⟨s, rfl, hc4, hk4⟩
    have hg4 := hc4.base.2.2
    go_wp2_with fail
    refine (spec_l1Below w0 _ g 6 (by decide) hc4).mono ?_
    rintro e w5 ⟨x4, rfl, hx4, hc5, hk5⟩
    have hg5 := hc5.base.2.2
    have hk35 := hk4.trans hk5
    have hk := k0.trans (hk23.trans hk35)
    have bR := b0.kept (Nat.ne_of_gt hg) (hk23.trans hk35)
    have HI := hid (show Verdict.ok ⟨a, a + 1, !s, 1 + x4⟩ from ⟨by simp only [I64]; omega, by simp only [I64]; omega, by simp only [I64]; omega⟩)
    clear hc hc0 k0 b0 hc2 hc3 hc4 hk23 hk4 hk5 hk35 hg2 hg3 hg4
    obtain ⟨cR, fR⟩ := bR.cells
    go_wp2
    have b9 : Blk ((((w5.setCell ⟨w.heap.size, 0, none⟩ (.int .i64 (a))).setCell ⟨w.heap.size, 1, none⟩ (.int .i64 (a + 1))).setCell ⟨w.heap.size, 2, none⟩ (.bool (!s))).setCell ⟨w.heap.size, 3, none⟩ (.int .i64 (1 + x4))) w.heap.size 74 [.int .i64 (a), .int .i64 (a + 1), .bool (!s), .int .i64 (1 + x4)] := ((((bR.setAt 0 (by show 0 < 4; decide) (.int .i64 (a))).setAt 1 (by show 1 < 4; decide) (.int .i64 (a + 1))).setAt 2 (by show 2 < 4; decide) (.bool (!s))).setAt 3 (by show 3 < 4; decide) (.int .i64 (1 + x4)))
    have r0 : ((((w5.setCell ⟨w.heap.size, 0, none⟩ (.int .i64 (a))).setCell ⟨w.heap.size, 1, none⟩ (.int .i64 (a + 1))).setCell ⟨w.heap.size, 2, none⟩ (.bool (!s))).setCell ⟨w.heap.size, 3, none⟩ (.int .i64 (1 + x4))).cell? ⟨w.heap.size, 0, none⟩ = some (.int .i64 (a)) := b9.cells.1 0
    have r1 : ((((w5.setCell ⟨w.heap.size, 0, none⟩ (.int .i64 (a))).setCell ⟨w.heap.size, 1, none⟩ (.int .i64 (a + 1))).setCell ⟨w.heap.size, 2, none⟩ (.bool (!s))).setCell ⟨w.heap.size, 3, none⟩ (.int .i64 (1 + x4))).cell? ⟨w.heap.size, 1, none⟩ = some (.int .i64 (a + 1)) := b9.cells.1 1
    have r2 : ((((w5.setCell ⟨w.heap.size, 0, none⟩ (.int .i64 (a))).setCell ⟨w.heap.size, 1, none⟩ (.int .i64 (a + 1))).setCell ⟨w.heap.size, 2, none⟩ (.bool (!s))).setCell ⟨w.heap.size, 3, none⟩ (.int .i64 (1 + x4))).cell? ⟨w.heap.size, 2, none⟩ = some (.bool (!s)) := b9.cells.1 2
    have r3 : ((((w5.setCell ⟨w.heap.size, 0, none⟩ (.int .i64 (a))).setCell ⟨w.heap.size, 1, none⟩ (.int .i64 (a + 1))).setCell ⟨w.heap.size, 2, none⟩ (.bool (!s))).setCell ⟨w.heap.size, 3, none⟩ (.int .i64 (1 + x4))).cell? ⟨w.heap.size, 3, none⟩ = some (.int .i64 (1 + x4)) := b9.cells.1 3
    have k9 : Kept g w ((((w5.setCell ⟨w.heap.size, 0, none⟩ (.int .i64 (a))).setCell ⟨w.heap.size, 1, none⟩ (.int .i64 (a + 1))).setCell ⟨w.heap.size, 2, none⟩ (.bool (!s))).setCell ⟨w.heap.size, 3, none⟩ (.int .i64 (1 + x4))) := ((((hk.setN (Nat.le_refl _) _).setN (Nat.le_refl _) _).setN (Nat.le_refl _) _).setN (Nat.le_refl _) _)
    have c9 : Cur w0 ((((w5.setCell ⟨w.heap.size, 0, none⟩ (.int .i64 (a))).setCell ⟨w.heap.size, 1, none⟩ (.int .i64 (a + 1))).setCell ⟨w.heap.size, 2, none⟩ (.bool (!s))).setCell ⟨w.heap.size, 3, none⟩ (.int .i64 (1 + x4))) g := ((((hc5.setN hg _).setN hg _).setN hg _).setN hg _)
    refine bodyPost_ret (v := .agg #[.int .i64 (a), .int .i64 (a + 1), .bool (!s), .int .i64 (1 + x4)]) (by simp [results, Tryz.results157, go_sem, r0, r1, r2, r3]) rfl ?_
    exact ⟨⟨a, a + 1, !s, 1 + x4⟩, rfl, HI.out, c9, k9⟩
  · have hm1 : min a b = b := by omega
    have hm2 : max a b = a := by omega
    go_wp2_with fail
    refine (spec_l1Once w0 _ g 3 (by decide) hc3).mono ?_
    rintro e w4 ⟨s, rfl, hc4, hk4⟩
    have hg4 := hc4.base.2.2
    go_wp2_with fail
    refine (spec_l1Below w0 _ g 6 (by decide) hc4).mono ?_
    rintro e w5 ⟨x4, rfl, hx4, hc5, hk5⟩
    have hg5 := hc5.base.2.2
    have hk35 := hk4.trans hk5
    have hk := k0.trans (hk23.trans hk35)
    have bR := b0.kept (Nat.ne_of_gt hg) (hk23.trans hk35)
    have HI := hid (show Verdict.ok ⟨b, a, !s, 1 + x4⟩ from ⟨by simp only [I64]; omega, by simp only [I64]; omega, by simp only [I64]; omega⟩)
    clear hc hc0 k0 b0 hc2 hc3 hc4 hk23 hk4 hk5 hk35 hg2 hg3 hg4
    obtain ⟨cR, fR⟩ := bR.cells
    go_wp2
    have b9 : Blk ((((w5.setCell ⟨w.heap.size, 0, none⟩ (.int .i64 (b))).setCell ⟨w.heap.size, 1, none⟩ (.int .i64 (a))).setCell ⟨w.heap.size, 2, none⟩ (.bool (!s))).setCell ⟨w.heap.size, 3, none⟩ (.int .i64 (1 + x4))) w.heap.size 74 [.int .i64 (b), .int .i64 (a), .bool (!s), .int .i64 (1 + x4)] := ((((bR.setAt 0 (by show 0 < 4; decide) (.int .i64 (b))).setAt 1 (by show 1 < 4; decide) (.int .i64 (a))).setAt 2 (by show 2 < 4; decide) (.bool (!s))).setAt 3 (by show 3 < 4; decide) (.int .i64 (1 + x4)))
    have r0 : ((((w5.setCell ⟨w.heap.size, 0, none⟩ (.int .i64 (b))).setCell ⟨w.heap.size, 1, none⟩ (.int .i64 (a))).setCell ⟨w.heap.size, 2, none⟩ (.bool (!s))).setCell ⟨w.heap.size, 3, none⟩ (.int .i64 (1 + x4))).cell? ⟨w.heap.size, 0, none⟩ = some (.int .i64 (b)) := b9.cells.1 0
    have r1 : ((((w5.setCell ⟨w.heap.size, 0, none⟩ (.int .i64 (b))).setCell ⟨w.heap.size, 1, none⟩ (.int .i64 (a))).setCell ⟨w.heap.size, 2, none⟩ (.bool (!s))).setCell ⟨w.heap.size, 3, none⟩ (.int .i64 (1 + x4))).cell? ⟨w.heap.size, 1, none⟩ = some (.int .i64 (a)) := b9.cells.1 1
    have r2 : ((((w5.setCell ⟨w.heap.size, 0, none⟩ (.int .i64 (b))).setCell ⟨w.heap.size, 1, none⟩ (.int .i64 (a))).setCell ⟨w.heap.size, 2, none⟩ (.bool (!s))).setCell ⟨w.heap.size, 3, none⟩ (.int .i64 (1 + x4))).cell? ⟨w.heap.size, 2, none⟩ = some (.bool (!s)) := b9.cells.1 2
    have r3 : ((((w5.setCell ⟨w.heap.size, 0, none⟩ (.int .i64 (b))).setCell ⟨w.heap.size, 1, none⟩ (.int .i64 (a))).setCell ⟨w.heap.size, 2, none⟩ (.bool (!s))).setCell ⟨w.heap.size, 3, none⟩ (.int .i64 (1 + x4))).cell? ⟨w.heap.size, 3, none⟩ = some (.int .i64 (1 + x4)) := b9.cells.1 3
    have k9 : Kept g w ((((w5.setCell ⟨w.heap.size, 0, none⟩ (.int .i64 (b))).setCell ⟨w.heap.size, 1, none⟩ (.int .i64 (a))).setCell ⟨w.heap.size, 2, none⟩ (.bool (!s))).setCell ⟨w.heap.size, 3, none⟩ (.int .i64 (1 + x4))) := ((((hk.setN (Nat.le_refl _) _).setN (Nat.le_refl _) _).setN (Nat.le_refl _) _).setN (Nat.le_refl _) _)
    have c9 : Cur w0 ((((w5.setCell ⟨w.heap.size, 0, none⟩ (.int .i64 (b))).setCell ⟨w.heap.size, 1, none⟩ (.int .i64 (a))).setCell ⟨w.heap.size, 2, none⟩ (.bool (!s))).setCell ⟨w.heap.size, 3, none⟩ (.int .i64 (1 + x4))) g := ((((hc5.setN hg _).setN hg _).setN hg _).setN hg _)
    refine bodyPost_ret (v := .agg #[.int .i64 (b), .int .i64 (a), .bool (!s), .int .i64 (1 + x4)]) (by simp [results, Tryz.results157, go_sem, r0, r1, r2, r3]) rfl ?_
    exact ⟨⟨b, a, !s, 1 + x4⟩, rfl, HI.out, c9, k9⟩

set_option maxHeartbeats 1000000 in
set_option maxRecDepth 20000 in
theorem spec_l28Any (w0 w : World) (g : Nat) (hc : Cur w0 w g) :
    Calls Tryz.prog 118 #[.pointer (some ⟨g, 0, none⟩)] w (VerDrawn w0 w g) := by
  have hg := hc.base.2.2
  have hc0 := hc.ext ((Ext.refl w).alloc (.cells #[.int .i64 0, .int .i64 0, .bool false, .int .i64 0] 74))
  have k0 := Ext.kept (g := g) ((Ext.refl w).alloc (.cells #[.int .i64 0, .int .i64 0, .bool false, .int .i64 0] 74))
  have b0 := Blk.new w 74 #[.int .i64 0, .int .i64 0, .bool false, .int .i64 0]
  go_enter Tryz.func118, Tryz.ntmps118
  go_wp2_with fail
  refine (spec_l28Verdict w0 _ g hc0).mono ?_
  rintro e w2 ⟨v, rfl, vok, hc2, hk2⟩
  have hgL := hc2.base.2.2
  have hk02 := k0.trans hk2
  have hwL := hk02.1
  have hnLR : ¬ w2.heap.size = w.heap.size := by have := block_lt (b0.kept (Nat.ne_of_gt hg) hk2); omega
  have hnRL : ¬ w.heap.size = w2.heap.size := fun e => hnLR e.symm
  have bL2 := Blk.new w2 74 #[.int .i64 v.a, .int .i64 v.b, .bool v.same, .int .i64 v.time]
  have bR2 := (b0.kept (Nat.ne_of_gt hg) hk2).ext ((Ext.refl w2).alloc (.cells #[.int .i64 v.a, .int .i64 v.b, .bool v.same, .int .i64 v.time] 74))
  have hc2a := hc2.ext ((Ext.refl w2).alloc (.cells #[.int .i64 v.a, .int .i64 v.b, .bool v.same, .int .i64 v.time] 74))
  have hk2a := hk02.alloc (.cells #[.int .i64 v.a, .int .i64 v.b, .bool v.same, .int .i64 v.time] 74)
  clear hc hc0 k0 b0 hc2 hk2 hk02
  go_wp2_with fail
  refine (spec_l1Below w0 _ g 14 (by decide) hc2a).mono ?_
  rintro e w3 ⟨x, rfl, hx, hc3, hk3⟩
  have hg3 := hc3.base.2.2
  have bL3 := bL2.kept (Nat.ne_of_gt hgL) hk3
  have bR3 := bR2.kept (Nat.ne_of_gt hg) hk3
  have hk03 := hk2a.trans hk3
  clear bL2 bR2 hc2a hk2a hk3
  obtain ⟨va, vb, vt⟩ := id vok
  by_cases h0 : x = 0
  · subst h0
    obtain ⟨cL3, _⟩ := bL3.cells
    go_wp2_with fail
    refine (spec_l1PickInt w0 _ g _ [0, 399, v.b] (by show 1 ≤ 3 ∧ 3 ≤ 256; decide) (hc3.ext ((Ext.refl _).alloc _)) (fun w4 k4 => (lit_kept rfl (by intro q hq; simp only [List.mem_cons, List.not_mem_nil, or_false] at hq; rcases hq with rfl | rfl | rfl; (exact ⟨by decide, by decide⟩); (exact ⟨by decide, by decide⟩); exact vb) (by show 3 ≤ maxLen; decide) hg3 k4).sl)).mono ?_
    rintro e w4 ⟨y, rfl, hy, hc4, hk4⟩
    replace hk4 := (Ext.kept (g := g) ((Ext.refl _).alloc _)).trans hk4
    have hg4 := hc4.base.2.2
    have bLn := bL3.kept (Nat.ne_of_gt hgL) hk4
    have bRn := bR3.kept (Nat.ne_of_gt hg) hk4
    have hkn := hk03.trans hk4
    clear hk4 hg4 hc3 bL3 bR3 hk03
    have bL9 : Blk (w4.setCell ⟨w2.heap.size, 0, none⟩ (.int .i64 y)) w2.heap.size 74 [.int .i64 y, .int .i64 v.b, .bool v.same, .int .i64 v.time] := (bLn.setAt 0 (by show 0 < 4; decide) (.int .i64 y))
    have bR9 := (bRn.other (i := 0) (u := .int .i64 y) hnRL)
    have kL9 : Kept g w (w4.setCell ⟨w2.heap.size, 0, none⟩ (.int .i64 y)) := (hkn.setN hwL _)
    have cL9 : Cur w0 (w4.setCell ⟨w2.heap.size, 0, none⟩ (.int .i64 y)) g := (hc4.setN hgL _)
    have HI := hid (show Verdict.ok ⟨y, v.b, v.same, v.time⟩ from ⟨hy, vb, vt⟩)
    obtain ⟨cL0, fL0⟩ := bLn.cells
    obtain ⟨cL, fL⟩ := bL9.cells
    obtain ⟨cR, fR⟩ := bR9.cells
    go_wp2
    have b9 : Blk (((((w4.setCell ⟨w2.heap.size, 0, none⟩ (.int .i64 y)).setCell ⟨w.heap.size, 0, none⟩ (.int .i64 y)).setCell ⟨w.heap.size, 1, none⟩ (.int .i64 v.b)).setCell ⟨w.heap.size, 2, none⟩ (.bool v.same)).setCell ⟨w.heap.size, 3, none⟩ (.int .i64 v.time)) w.heap.size 74 [.int .i64 y, .int .i64 v.b, .bool v.same, .int .i64 v.time] := ((((bR9.setAt 0 (by show 0 < 4; decide) (.int .i64 y)).setAt 1 (by show 1 < 4; decide) (.int .i64 v.b)).setAt 2 (by show 2 < 4; decide) (.bool v.same)).setAt 3 (by show 3 < 4; decide) (.int .i64 v.time))
    have r0 : (((((w4.setCell ⟨w2.heap.size, 0, none⟩ (.int .i64 y)).setCell ⟨w.heap.size, 0, none⟩ (.int .i64 y)).setCell ⟨w.heap.size, 1, none⟩ (.int .i64 v.b)).setCell ⟨w.heap.size, 2, none⟩ (.bool v.same)).setCell ⟨w.heap.size, 3, none⟩ (.int .i64 v.time)).cell? ⟨w.heap.size, 0, none⟩ = some (.int .i64 y) := b9.cells.1 0
    have r1 : (((((w4.setCell ⟨w2.heap.size, 0, none⟩ (.int .i64 y)).setCell ⟨w.heap.size, 0, none⟩ (.int .i64 y)).setCell ⟨w.heap.size, 1, none⟩ (.int .i64 v.b)).setCell ⟨w.heap.size, 2, none⟩ (.bool v.same)).setCell ⟨w.heap.size, 3, none⟩ (.int .i64 v.time)).cell? ⟨w.heap.size, 1, none⟩ = some (.int .i64 v.b) := b9.cells.1 1
    have r2 : (((((w4.setCell ⟨w2.heap.size, 0, none⟩ (.int .i64 y)).setCell ⟨w.heap.size, 0, none⟩ (.int .i64 y)).setCell ⟨w.heap.size, 1, none⟩ (.int .i64 v.b)).setCell ⟨w.heap.size, 2, none⟩ (.bool v.same)).setCell ⟨w.heap.size, 3, none⟩ (.int .i64 v.time)).cell? ⟨w.heap.size, 2, none⟩ = some (.bool v.same) := b9.cells.1 2
    have r3 : (((((w4.setCell ⟨w2.heap.size, 0, none⟩ (.int .i64 y)).setCell ⟨w.heap.size, 0, none⟩ (.int .i64 y)).setCell ⟨w.heap.size, 1, none⟩ (.int .i64 v.b)).setCell ⟨w.heap.size, 2, none⟩ (.bool v.same)).setCell ⟨w.heap.size, 3, none⟩ (.int .i64 v.time)).cell? ⟨w.heap.size, 3, none⟩ = some (.int .i64 v.time) := b9.cells.1 3
    have k9 : Kept g w (((((w4.setCell ⟨w2.heap.size, 0, none⟩ (.int .i64 y)).setCell ⟨w.heap.size, 0, none⟩ (.int .i64 y)).setCell ⟨w.heap.size, 1, none⟩ (.int .i64 v.b)).setCell ⟨w.heap.size, 2, none⟩ (.bool v.same)).setCell ⟨w.heap.size, 3, none⟩ (.int .i64 v.time)) := ((((kL9.setN (Nat.le_refl _) _).setN (Nat.le_refl _) _).setN (Nat.le_refl _) _).setN (Nat.le_refl _) _)
    have c9 : Cur w0 (((((w4.setCell ⟨w2.heap.size, 0, none⟩ (.int .i64 y)).setCell ⟨w.heap.size, 0, none⟩ (.int .i64 y)).setCell ⟨w.heap.size, 1, none⟩ (.int .i64 v.b)).setCell ⟨w.heap.size, 2, none⟩ (.bool v.same)).setCell ⟨w.heap.size, 3, none⟩ (.int .i64 v.time)) g := ((((cL9.setN hg _).setN hg _).setN hg _).setN hg _)
    refine bodyPost_ret (v := .agg #[.int .i64 y, .int .i64 v.b, .bool v.same, .int .i64 v.time]) (by simp [results, Tryz.results118, go_sem, r0, r1, r2, r3]) rfl ?_
    exact ⟨⟨y, v.b, v.same, v.time⟩, rfl, HI.out, c9, k9⟩
  · by_cases h1 : x = 1
    · subst h1
      go_wp2_with fail
      refine (spec_l1PickInt w0 _ g _ [0, 999, 1000] (by show 1 ≤ 3 ∧ 3 ≤ 256; decide) (hc3.ext ((Ext.refl _).alloc _)) (fun w4 k4 => (lit_kept rfl (by simp [I64]) (by show 3 ≤ maxLen; decide) hg3 k4).sl)).mono ?_
      rintro e w4 ⟨y, rfl, hy, hc4, hk4⟩
      replace hk4 := (Ext.kept (g := g) ((Ext.refl _).alloc _)).trans hk4
      have hg4 := hc4.base.2.2
      have bLn := bL3.kept (Nat.ne_of_gt hgL) hk4
      have bRn := bR3.kept (Nat.ne_of_gt hg) hk4
      have hkn := hk03.trans hk4
      clear hk4 hg4 hc3 bL3 bR3 hk03
      have bL9 : Blk (w4.setCell ⟨w2.heap.size, 3, none⟩ (.int .i64 y)) w2.heap.size 74 [.int .i64 v.a, .int .i64 v.b, .bool v.same, .int .i64 y] := (bLn.setAt 3 (by show 3 < 4; decide) (.int .i64 y))
      have bR9 := (bRn.other (i := 3) (u := .int .i64 y) hnRL)
      have kL9 : Kept g w (w4.setCell ⟨w2.heap.size, 3, none⟩ (.int .i64 y)) := (hkn.setN hwL _)
      have cL9 : Cur w0 (w4.setCell ⟨w2.heap.size, 3, none⟩ (.int .i64 y)) g := (hc4.setN hgL _)
      have HI := hid (show Verdict.ok ⟨v.a, v.b, v.same, y⟩ from ⟨va, vb, hy⟩)
      obtain ⟨cL0, fL0⟩ := bLn.cells
      obtain ⟨cL, fL⟩ := bL9.cells
      obtain ⟨cR, fR⟩ := bR9.cells
      go_wp2
      have b9 : Blk (((((w4.setCell ⟨w2.heap.size, 3, none⟩ (.int .i64 y)).setCell ⟨w.heap.size, 0, none⟩ (.int .i64 v.a)).setCell ⟨w.heap.size, 1, none⟩ (.int .i64 v.b)).setCell ⟨w.heap.size, 2, none⟩ (.bool v.same)).setCell ⟨w.heap.size, 3, none⟩ (.int .i64 y)) w.heap.size 74 [.int .i64 v.a, .int .i64 v.b, .bool v.same, .int .i64 y] := ((((bR9.setAt 0 (by show 0 < 4; decide) (.int .i64 v.a)).setAt 1 (by show 1 < 4; decide) (.int .i64 v.b)).setAt 2 (by show 2 < 4; decide) (.bool v.same)).setAt 3 (by show 3 < 4; decide) (.int .i64 y))
      have r0 : (((((w4.setCell ⟨w2.heap.size, 3, none⟩ (.int .i64 y)).setCell ⟨w.heap.size, 0, none⟩ (.int .i64 v.a)).setCell ⟨w.heap.size, 1, none⟩ (.int .i64 v.b)).setCell ⟨w.heap.size, 2, none⟩ (.bool v.same)).setCell ⟨w.heap.size, 3, none⟩ (.int .i64 y)).cell? ⟨w.heap.size, 0, none⟩ = some (.int .i64 v.a) := b9.cells.1 0
      have r1 : (((((w4.setCell ⟨w2.heap.size, 3, none⟩ (.int .i64 y)).setCell ⟨w.heap.size, 0, none⟩ (.int .i64 v.a)).setCell ⟨w.heap.size, 1, none⟩ (.int .i64 v.b)).setCell ⟨w.heap.size, 2, none⟩ (.bool v.same)).setCell ⟨w.heap.size, 3, none⟩ (.int .i64 y)).cell? ⟨w.heap.size, 1, none⟩ = some (.int .i64 v.b) := b9.cells.1 1
      have r2 : (((((w4.setCell ⟨w2.heap.size, 3, none⟩ (.int .i64 y)).setCell ⟨w.heap.size, 0, none⟩ (.int .i64 v.a)).setCell ⟨w.heap.size, 1, none⟩ (.int .i64 v.b)).setCell ⟨w.heap.size, 2, none⟩ (.bool v.same)).setCell ⟨w.heap.size, 3, none⟩ (.int .i64 y)).cell? ⟨w.heap.size, 2, none⟩ = some (.bool v.same) := b9.cells.1 2
      have r3 : (((((w4.setCell ⟨w2.heap.size, 3, none⟩ (.int .i64 y)).setCell ⟨w.heap.size, 0, none⟩ (.int .i64 v.a)).setCell ⟨w.heap.size, 1, none⟩ (.int .i64 v.b)).setCell ⟨w.heap.size, 2, none⟩ (.bool v.same)).setCell ⟨w.heap.size, 3, none⟩ (.int .i64 y)).cell? ⟨w.heap.size, 3, none⟩ = some (.int .i64 y) := b9.cells.1 3
      have k9 : Kept g w (((((w4.setCell ⟨w2.heap.size, 3, none⟩ (.int .i64 y)).setCell ⟨w.heap.size, 0, none⟩ (.int .i64 v.a)).setCell ⟨w.heap.size, 1, none⟩ (.int .i64 v.b)).setCell ⟨w.heap.size, 2, none⟩ (.bool v.same)).setCell ⟨w.heap.size, 3, none⟩ (.int .i64 y)) := ((((kL9.setN (Nat.le_refl _) _).setN (Nat.le_refl _) _).setN (Nat.le_refl _) _).setN (Nat.le_refl _) _)
      have c9 : Cur w0 (((((w4.setCell ⟨w2.heap.size, 3, none⟩ (.int .i64 y)).setCell ⟨w.heap.size, 0, none⟩ (.int .i64 v.a)).setCell ⟨w.heap.size, 1, none⟩ (.int .i64 v.b)).setCell ⟨w.heap.size, 2, none⟩ (.bool v.same)).setCell ⟨w.heap.size, 3, none⟩ (.int .i64 y)) g := ((((cL9.setN hg _).setN hg _).setN hg _).setN hg _)
      refine bodyPost_ret (v := .agg #[.int .i64 v.a, .int .i64 v.b, .bool v.same, .int .i64 y]) (by simp [results, Tryz.results118, go_sem, r0, r1, r2, r3]) rfl ?_
      exact ⟨⟨v.a, v.b, v.same, y⟩, rfl, HI.out, c9, k9⟩
    · by_cases h2 : x = 2
      · subst h2
        have bL9 : Blk (w3.setCell ⟨w2.heap.size, 1, none⟩ (.int .i64 400)) w2.heap.size 74 [.int .i64 v.a, .int .i64 400, .bool v.same, .int .i64 v.time] := (bL3.setAt 1 (by show 1 < 4; decide) (.int .i64 400))
        have bR9 := (bR3.other (i := 1) (u := .int .i64 400) hnRL)
        have kL9 : Kept g w (w3.setCell ⟨w2.heap.size, 1, none⟩ (.int .i64 400)) := (hk03.setN hwL _)
        have cL9 : Cur w0 (w3.setCell ⟨w2.heap.size, 1, none⟩ (.int .i64 400)) g := (hc3.setN hgL _)
        have HI := hid (show Verdict.ok ⟨v.a, 400, v.same, v.time⟩ from ⟨va, by show I64 400; exact ⟨by decide, by decide⟩, vt⟩)
        obtain ⟨cL0, fL0⟩ := bL3.cells
        obtain ⟨cL, fL⟩ := bL9.cells
        obtain ⟨cR, fR⟩ := bR9.cells
        go_wp2
        have b9 : Blk (((((w3.setCell ⟨w2.heap.size, 1, none⟩ (.int .i64 400)).setCell ⟨w.heap.size, 0, none⟩ (.int .i64 v.a)).setCell ⟨w.heap.size, 1, none⟩ (.int .i64 400)).setCell ⟨w.heap.size, 2, none⟩ (.bool v.same)).setCell ⟨w.heap.size, 3, none⟩ (.int .i64 v.time)) w.heap.size 74 [.int .i64 v.a, .int .i64 400, .bool v.same, .int .i64 v.time] := ((((bR9.setAt 0 (by show 0 < 4; decide) (.int .i64 v.a)).setAt 1 (by show 1 < 4; decide) (.int .i64 400)).setAt 2 (by show 2 < 4; decide) (.bool v.same)).setAt 3 (by show 3 < 4; decide) (.int .i64 v.time))
        have r0 : (((((w3.setCell ⟨w2.heap.size, 1, none⟩ (.int .i64 400)).setCell ⟨w.heap.size, 0, none⟩ (.int .i64 v.a)).setCell ⟨w.heap.size, 1, none⟩ (.int .i64 400)).setCell ⟨w.heap.size, 2, none⟩ (.bool v.same)).setCell ⟨w.heap.size, 3, none⟩ (.int .i64 v.time)).cell? ⟨w.heap.size, 0, none⟩ = some (.int .i64 v.a) := b9.cells.1 0
        have r1 : (((((w3.setCell ⟨w2.heap.size, 1, none⟩ (.int .i64 400)).setCell ⟨w.heap.size, 0, none⟩ (.int .i64 v.a)).setCell ⟨w.heap.size, 1, none⟩ (.int .i64 400)).setCell ⟨w.heap.size, 2, none⟩ (.bool v.same)).setCell ⟨w.heap.size, 3, none⟩ (.int .i64 v.time)).cell? ⟨w.heap.size, 1, none⟩ = some (.int .i64 400) := b9.cells.1 1
        have r2 : (((((w3.setCell ⟨w2.heap.size, 1, none⟩ (.int .i64 400)).setCell ⟨w.heap.size, 0, none⟩ (.int .i64 v.a)).setCell ⟨w.heap.size, 1, none⟩ (.int .i64 400)).setCell ⟨w.heap.size, 2, none⟩ (.bool v.same)).setCell ⟨w.heap.size, 3, none⟩ (.int .i64 v.time)).cell? ⟨w.heap.size, 2, none⟩ = some (.bool v.same) := b9.cells.1 2
        have r3 : (((((w3.setCell ⟨w2.heap.size, 1, none⟩ (.int .i64 400)).setCell ⟨w.heap.size, 0, none⟩ (.int .i64 v.a)).setCell ⟨w.heap.size, 1, none⟩ (.int .i64 400)).setCell ⟨w.heap.size, 2, none⟩ (.bool v.same)).setCell ⟨w.heap.size, 3, none⟩ (.int .i64 v.time)).cell? ⟨w.heap.size, 3, none⟩ = some (.int .i64 v.time) := b9.cells.1 3
        have k9 : Kept g w (((((w3.setCell ⟨w2.heap.size, 1, none⟩ (.int .i64 400)).setCell ⟨w.heap.size, 0, none⟩ (.int .i64 v.a)).setCell ⟨w.heap.size, 1, none⟩ (.int .i64 400)).setCell ⟨w.heap.size, 2, none⟩ (.bool v.same)).setCell ⟨w.heap.size, 3, none⟩ (.int .i64 v.time)) := ((((kL9.setN (Nat.le_refl _) _).setN (Nat.le_refl _) _).setN (Nat.le_refl _) _).setN (Nat.le_refl _) _)
        have c9 : Cur w0 (((((w3.setCell ⟨w2.heap.size, 1, none⟩ (.int .i64 400)).setCell ⟨w.heap.size, 0, none⟩ (.int .i64 v.a)).setCell ⟨w.heap.size, 1, none⟩ (.int .i64 400)).setCell ⟨w.heap.size, 2, none⟩ (.bool v.same)).setCell ⟨w.heap.size, 3, none⟩ (.int .i64 v.time)) g := ((((cL9.setN hg _).setN hg _).setN hg _).setN hg _)
        refine bodyPost_ret (v := .agg #[.int .i64 v.a, .int .i64 400, .bool v.same, .int .i64 v.time]) (by simp [results, Tryz.results118, go_sem, r0, r1, r2, r3]) rfl ?_
        exact ⟨⟨v.a, 400, v.same, v.time⟩, rfl, HI.out, c9, k9⟩
      · obtain ⟨cL, fL⟩ := bL3.cells
        obtain ⟨cR, fR⟩ := bR3.cells
        go_wp2
        have b9 : Blk ((((w3.setCell ⟨w.heap.size, 0, none⟩ (.int .i64 v.a)).setCell ⟨w.heap.size, 1, none⟩ (.int .i64 v.b)).setCell ⟨w.heap.size, 2, none⟩ (.bool v.same)).setCell ⟨w.heap.size, 3, none⟩ (.int .i64 v.time)) w.heap.size 74 [.int .i64 v.a, .int .i64 v.b, .bool v.same, .int .i64 v.time] := ((((bR3.setAt 0 (by show 0 < 4; decide) (.int .i64 v.a)).setAt 1 (by show 1 < 4; decide) (.int .i64 v.b)).setAt 2 (by show 2 < 4; decide) (.bool v.same)).setAt 3 (by show 3 < 4; decide) (.int .i64 v.time))
        have r0 : ((((w3.setCell ⟨w.heap.size, 0, none⟩ (.int .i64 v.a)).setCell ⟨w.heap.size, 1, none⟩ (.int .i64 v.b)).setCell ⟨w.heap.size, 2, none⟩ (.bool v.same)).setCell ⟨w.heap.size, 3, none⟩ (.int .i64 v.time)).cell? ⟨w.heap.size, 0, none⟩ = some (.int .i64 v.a) := b9.cells.1 0
        have r1 : ((((w3.setCell ⟨w.heap.size, 0, none⟩ (.int .i64 v.a)).setCell ⟨w.heap.size, 1, none⟩ (.int .i64 v.b)).setCell ⟨w.heap.size, 2, none⟩ (.bool v.same)).setCell ⟨w.heap.size, 3, none⟩ (.int .i64 v.time)).cell? ⟨w.heap.size, 1, none⟩ = some (.int .i64 v.b) := b9.cells.1 1
        have r2 : ((((w3.setCell ⟨w.heap.size, 0, none⟩ (.int .i64 v.a)).setCell ⟨w.heap.size, 1, none⟩ (.int .i64 v.b)).setCell ⟨w.heap.size, 2, none⟩ (.bool v.same)).setCell ⟨w.heap.size, 3, none⟩ (.int .i64 v.time)).cell? ⟨w.heap.size, 2, none⟩ = some (.bool v.same) := b9.cells.1 2
        have r3 : ((((w3.setCell ⟨w.heap.size, 0, none⟩ (.int .i64 v.a)).setCell ⟨w.heap.size, 1, none⟩ (.int .i64 v.b)).setCell ⟨w.heap.size, 2, none⟩ (.bool v.same)).setCell ⟨w.heap.size, 3, none⟩ (.int .i64 v.time)).cell? ⟨w.heap.size, 3, none⟩ = some (.int .i64 v.time) := b9.cells.1 3
        have k9 : Kept g w ((((w3.setCell ⟨w.heap.size, 0, none⟩ (.int .i64 v.a)).setCell ⟨w.heap.size, 1, none⟩ (.int .i64 v.b)).setCell ⟨w.heap.size, 2, none⟩ (.bool v.same)).setCell ⟨w.heap.size, 3, none⟩ (.int .i64 v.time)) := ((((hk03.setN (Nat.le_refl _) _).setN (Nat.le_refl _) _).setN (Nat.le_refl _) _).setN (Nat.le_refl _) _)
        have c9 : Cur w0 ((((w3.setCell ⟨w.heap.size, 0, none⟩ (.int .i64 v.a)).setCell ⟨w.heap.size, 1, none⟩ (.int .i64 v.b)).setCell ⟨w.heap.size, 2, none⟩ (.bool v.same)).setCell ⟨w.heap.size, 3, none⟩ (.int .i64 v.time)) g := ((((hc3.setN hg _).setN hg _).setN hg _).setN hg _)
        refine bodyPost_ret (v := .agg #[.int .i64 v.a, .int .i64 v.b, .bool v.same, .int .i64 v.time]) (by simp [results, Tryz.results118, go_sem, r0, r1, r2, r3]) rfl ?_
        exact ⟨v, rfl, vok, c9, k9⟩

end Go.Proofs.YtfcbapaojoecgaaGreat

namespace Go.Proofs.YtfcbapaojoecgaaGreat
open Go.RowKit

theorem lits_kept {w w2 : World} {g : Nat} {T : TypeId} {xs : List ByteArray} {cs : Array Value} (hcs : cs.toList = xs.map Value.string) (h : ∀ x ∈ xs, x.size ≤ maxLen) (hl : xs.length ≤ maxLen) (hg : g < w.heap.size) (k : Kept g (w.alloc (.cells cs T)) w2) :
    OwnSl strO w2 (.slice (some ⟨w.heap.size, 0, none⟩) xs.length xs.length) xs [w.heap.size] := by
  have hb := Blk.new w T cs
  rw [hcs] at hb
  exact (OwnSl.of_blk hb hl (strs_cells _ _ h)).kept (by simp; omega) k

set_option maxHeartbeats 400000 in
set_option maxRecDepth 20000 in
theorem spec_l1Pick (w0 w : World) (g : Nat) (v : Value) (xs : List ByteArray) (hl : 1 ≤ xs.length ∧ xs.length ≤ 256) (hz : ∀ x ∈ xs, x.size ≤ 32) (hc : Cur w0 w g) (hs : ∀ w2, Kept g w w2 → Sl strR w2 v xs) :
    Calls Tryz.prog 126 #[.pointer (some ⟨g, 0, none⟩), v] w fun e w2 => ∃ x : ByteArray, e = .returned (.string x) ∧ x.size ≤ 32 ∧ Cur w0 w2 g ∧ Kept g w w2 := by
  obtain ⟨A, cap, rfl, hm⟩ := (hs w (Kept.refl _ _)).form
  go_enter Tryz.func126, Tryz.ntmps126
  go_wp2_with fail
  refine (spec_l1Below w0 w g xs.length (by omega) hc).mono ?_
  rintro e w2 ⟨x, rfl, hx, hc2, hk⟩
  obtain ⟨j, rfl⟩ : ∃ j : Nat, x = j := ⟨x.toNat, by omega⟩
  have hj : j < xs.length := by omega
  have hs2 := hs w2 hk
  obtain ⟨b, off, rfl, hI, hcell⟩ := hs2.str hj
  have HZ := hid (hz _ (List.getElem_mem hj))
  go_wp2
  go_ret
  exact ⟨_, rfl, HZ.out, hc2, hk⟩

/-- a record that was drawn -/
def RecDrawn (w0 w : World) (g : Nat) (e : Ending) (w2 : World) : Prop := ∃ b r, e = .returned (.agg #[.int .i64 r.source, .int .i64 r.key, .int .i64 r.version, .slice (some ⟨b, 0, none⟩) 4 4]) ∧ Record.ok r ∧ OwnSl strO w2 (.slice (some ⟨b, 0, none⟩) 4 4) r.fields [b] ∧ r.fields.length = 4 ∧ w.heap.size ≤ b ∧ Cur w0 w2 g ∧ Kept g w w2
set_option maxHeartbeats 400000 in
set_option maxRecDepth 20000 in
theorem spec_l2Name (w0 w : World) (g : Nat) (hc : Cur w0 w g) :
    Calls Tryz.prog 176 #[.pointer (some ⟨g, 0, none⟩)] w fun e w2 => ∃ s : ByteArray, e = .returned (.string s) ∧ s.size ≤ 200 ∧ Cur w0 w2 g ∧ Kept g w w2 := by
  have hg := hc.base.2.2
  have e1 : (⟨#[44, 32]⟩ : ByteArray).size = 2 := rfl
  have e2 : (⟨#[32]⟩ : ByteArray).size = 1 := rfl
  go_enter Tryz.func176, Tryz.ntmps176
  go_wp2_with fail
  refine (spec_l1Pick w0 _ g _ [⟨#[97, 110, 110, 97]⟩, ⟨#[65, 110, 110, 97]⟩, ⟨#[97, 110, 110]⟩, ⟨#[106, 111, 104, 110]⟩, ⟨#[74, 111, 110]⟩, ⟨#[109, 97, 114, 105, 97]⟩, ⟨#[77, 97, 114, 121]⟩, ⟨#[112, 101, 116, 101, 114]⟩, ⟨#[79, 39, 78, 101, 105, 108]⟩, ⟨#[108, 105]⟩] (by decide) (by decide) (hc.ext ((Ext.refl _).alloc _)) (fun w4 k4 => (lits_kept rfl (by decide) (by decide) hg k4).sl)).mono ?_
  rintro e w1 ⟨f, rfl, hf, hc1, hk1⟩
  replace hk1 := (Ext.kept (g := g) ((Ext.refl _).alloc _)).trans hk1
  have hg1 := hc1.base.2.2
  go_wp2_with fail
  refine (spec_l1Pick w0 _ g _ [⟨#[115, 109, 105, 116, 104]⟩, ⟨#[83, 109, 121, 116, 104]⟩, ⟨#[115, 99, 104, 109, 105, 100, 116]⟩, ⟨#[106, 111, 110, 101, 115]⟩, ⟨#[74, 111, 110, 97, 115]⟩, ⟨#[108, 101, 101]⟩, ⟨#[100, 101, 32, 108, 97, 32, 67, 114, 117, 122]⟩, ⟨#[109, 105, 108, 108, 101, 114]⟩, ⟨#[77, 117, 108, 108, 101, 114]⟩] (by decide) (by decide) (hc1.ext ((Ext.refl _).alloc _)) (fun w4 k4 => (lits_kept rfl (by decide) (by decide) hg1 k4).sl)).mono ?_
  rintro e w2 ⟨l, rfl, hl, hc2, hk2⟩
  replace hk2 := (Ext.kept (g := g) ((Ext.refl _).alloc _)).trans hk2
  have hg2 := hc2.base.2.2
  go_wp2_with fail
  refine (spec_l1Below w0 _ g 6 (by decide) hc2).mono ?_
  rintro e w3 ⟨x, rfl, hx, hc3, hk3⟩
  have hg3 := hc3.base.2.2
  have hk := hk1.trans (hk2.trans hk3)
  by_cases h0 : x = 0
  · subst h0
    have s1 := run_cat (P := Tryz.prog) 9 (l) (⟨#[44, 32]⟩) (by simp only [ByteArray.size_append, e1, e2]; omega)
    have s2 := run_cat (P := Tryz.prog) 9 (l ++ ⟨#[44, 32]⟩) (f) (by simp only [ByteArray.size_append, e1, e2]; omega)
    go_wp2
    go_ret
    exact ⟨_, rfl, by simp only [ByteArray.size_append, e1, e2]; omega, hc3, hk⟩
  · by_cases h1 : x = 1
    · subst h1
      have s1 := run_cat (P := Tryz.prog) 9 (f) (⟨#[32]⟩) (by simp only [ByteArray.size_append, e1, e2]; omega)
      go_wp2_with fail
      refine (spec_l1Pick w0 _ g _ [⟨#[97, 46]⟩, ⟨#[66]⟩, ⟨#[106]⟩] (by decide) (by decide) (hc3.ext ((Ext.refl _).alloc _)) (fun w4 k4 => (lits_kept rfl (by decide) (by decide) hg3 k4).sl)).mono ?_
      rintro e w4 ⟨m, rfl, hm, hc4, hk4⟩
      replace hk4 := (Ext.kept (g := g) ((Ext.refl _).alloc _)).trans hk4
      have hg4 := hc4.base.2.2
      have s2 := run_cat (P := Tryz.prog) 9 (f ++ ⟨#[32]⟩) (m) (by simp only [ByteArray.size_append, e1, e2]; omega)
      have s3 := run_cat (P := Tryz.prog) 9 (f ++ ⟨#[32]⟩ ++ m) (⟨#[32]⟩) (by simp only [ByteArray.size_append, e1, e2]; omega)
      have s4 := run_cat (P := Tryz.prog) 9 (f ++ ⟨#[32]⟩ ++ m ++ ⟨#[32]⟩) (l) (by simp only [ByteArray.size_append, e1, e2]; omega)
      go_wp2
      go_ret
      exact ⟨_, rfl, by simp only [ByteArray.size_append, e1, e2]; omega, hc4, hk.trans hk4⟩
    · by_cases h2 : x = 2
      · subst h2
        go_wp2
        go_ret
        exact ⟨_, rfl, by omega, hc3, hk⟩
      · have s1 := run_cat (P := Tryz.prog) 9 (f) (⟨#[32]⟩) (by simp only [ByteArray.size_append, e1, e2]; omega)
        have s2 := run_cat (P := Tryz.prog) 9 (f ++ ⟨#[32]⟩) (l) (by simp only [ByteArray.size_append, e1, e2]; omega)
        go_wp2
        go_ret
        exact ⟨_, rfl, by simp only [ByteArray.size_append, e1, e2]; omega, hc3, hk⟩

set_option maxHeartbeats 400000 in
theorem spec_l7Phone (w0 w : World) (g : Nat) (hc : Cur w0 w g) :
    Calls Tryz.prog 177 #[.pointer (some ⟨g, 0, none⟩)] w fun e w2 => ∃ s : ByteArray, e = .returned (.string s) ∧ s.size ≤ 32 ∧ Cur w0 w2 g ∧ Kept g w w2 := by
  have hg := hc.base.2.2
  go_enter Tryz.func177, Tryz.ntmps177
  go_wp2_with fail
  refine (spec_l1Pick w0 _ g _ [⟨#[53, 53, 53, 32, 49, 50, 51, 52]⟩, ⟨#[43, 49, 32, 53, 53, 53, 45, 49, 50, 51, 52]⟩, ⟨#[49, 53, 53, 53, 49, 50, 51, 52]⟩, ⟨#[53, 53, 53, 49, 50, 51, 52]⟩, ⟨#[49, 50, 51, 52]⟩, ⟨#[50, 51, 52]⟩, ⟨#[]⟩, ⟨#[53, 53, 53, 45, 57, 57, 57, 57]⟩, ⟨#[48, 48, 52, 52, 32, 50, 48, 32, 55, 57, 52, 54, 32, 48, 48, 49, 56]⟩, ⟨#[55, 57, 52, 54, 32, 48, 48, 49, 56]⟩, ⟨#[120]⟩] (by decide) (by decide) (hc.ext ((Ext.refl _).alloc _)) (fun w4 k4 => (lits_kept rfl (by decide) (by decide) hg k4).sl)).mono ?_
  rintro e w1 ⟨f, rfl, hf, hc1, hk1⟩
  replace hk1 := (Ext.kept (g := g) ((Ext.refl _).alloc _)).trans hk1
  have hg1 := hc1.base.2.2
  go_wp2
  go_ret
  exact ⟨_, rfl, hf, hc1, hk1⟩

set_option maxHeartbeats 400000 in
set_option maxRecDepth 20000 in
theorem spec_l8Fields (w0 w : World) (g : Nat) (hc : Cur w0 w g) :
    Calls Tryz.prog 170 #[.pointer (some ⟨g, 0, none⟩)] w fun e w2 => ∃ b fs, e = .returned (.slice (some ⟨b, 0, none⟩) 4 4) ∧ OwnSl strO w2 (.slice (some ⟨b, 0, none⟩) 4 4) fs [b] ∧ fs.length = 4 ∧ w.heap.size ≤ b ∧ Cur w0 w2 g ∧ Kept g w w2 := by
  have hg := hc.base.2.2
  go_enter Tryz.func170, Tryz.ntmps170
  go_wp2_with fail
  refine (spec_l2Name w0 _ g hc).mono ?_
  rintro e w1 ⟨n, rfl, hn, hc1, hk1⟩
  have hg1 := hc1.base.2.2
  go_wp2_with fail
  refine (spec_l1Pick w0 _ g _ [⟨#[80, 97, 114, 105, 115]⟩, ⟨#[112, 97, 114, 105, 115]⟩, ⟨#[76, 111, 110, 100, 111, 110]⟩, ⟨#[78, 101, 119, 32, 89, 111, 114, 107]⟩, ⟨#[110, 101, 119, 45, 121, 111, 114, 107]⟩, ⟨#[]⟩, ⟨#[82, 111, 109, 101]⟩] (by decide) (by decide) (hc1.ext ((Ext.refl _).alloc _)) (fun w4 k4 => (lits_kept rfl (by decide) (by decide) hg1 k4).sl)).mono ?_
  rintro e w2 ⟨p, rfl, hp, hc2, hk2⟩
  replace hk2 := (Ext.kept (g := g) ((Ext.refl _).alloc _)).trans hk2
  have hg2 := hc2.base.2.2
  go_wp2_with fail
  refine (spec_l1Pick w0 _ g _ [⟨#[49, 57, 56, 48]⟩, ⟨#[49, 57, 56, 49]⟩, ⟨#[49, 57, 56, 53]⟩, ⟨#[]⟩, ⟨#[49, 57, 57, 48]⟩, ⟨#[120]⟩] (by decide) (by decide) (hc2.ext ((Ext.refl _).alloc _)) (fun w4 k4 => (lits_kept rfl (by decide) (by decide) hg2 k4).sl)).mono ?_
  rintro e w3 ⟨q, rfl, hq, hc3, hk3⟩
  replace hk3 := (Ext.kept (g := g) ((Ext.refl _).alloc _)).trans hk3
  have hg3 := hc3.base.2.2
  go_wp2_with fail
  refine (spec_l7Phone w0 _ g hc3).mono ?_
  rintro e w4 ⟨r, rfl, hr, hc4, hk4⟩
  have hk := hk1.trans (hk2.trans (hk3.trans hk4))
  go_wp2
  go_ret
  have hmx : (200 : Nat) ≤ maxLen := by decide
  exact ⟨w4.heap.size, [n, p, q, r], rfl, OwnSl.of_blk (xs := [n, p, q, r]) (Blk.new w4 9 #[.string n, .string p, .string q, .string r]) (by show 4 ≤ maxLen; decide) (strs_cells _ [n, p, q, r] (by
    intro y hy
    simp only [List.mem_cons, List.not_mem_nil, or_false] at hy
    rcases hy with rfl | rfl | rfl | rfl <;> omega)), rfl, hk.1, hc4.ext ((Ext.refl _).alloc _), hk.alloc _⟩

set_option maxHeartbeats 400000 in
set_option maxRecDepth 20000 in
theorem spec_l8Record (w0 w : World) (g : Nat) (hc : Cur w0 w g) :
    Calls Tryz.prog 156 #[.pointer (some ⟨g, 0, none⟩)] w (RecDrawn w0 w g) := by
  have hg := hc.base.2.2
  have hc0 := hc.ext ((Ext.refl w).alloc (.cells #[.int .i64 0, .int .i64 0, .int .i64 0, .slice none 0 0] 72))
  have k0 := Ext.kept (g := g) ((Ext.refl w).alloc (.cells #[.int .i64 0, .int .i64 0, .int .i64 0, .slice none 0 0] 72))
  have b0 := Blk.new w 72 #[.int .i64 0, .int .i64 0, .int .i64 0, .slice none 0 0]
  go_enter Tryz.func156, Tryz.ntmps156
  go_wp2_with fail
  refine (spec_l1Below w0 _ g 4 (by decide) hc0).mono ?_
  rintro e w2 ⟨x1, rfl, hx1, hc2, hk2⟩
  have hg2 := hc2.base.2.2
  go_wp2_with fail
  refine (spec_l1Below w0 _ g 4 (by decide) hc2).mono ?_
  rintro e w3 ⟨x2, rfl, hx2, hc3, hk3⟩
  have hg3 := hc3.base.2.2
  go_wp2_with fail
  refine (spec_l1Below w0 _ g 3 (by decide) hc3).mono ?_
  rintro e w4 ⟨x3, rfl, hx3, hc4, hk4⟩
  have hg4 := hc4.base.2.2
  go_wp2_with fail
  refine (spec_l8Fields w0 _ g hc4).mono ?_
  rintro e w5 ⟨b, fs, rfl, ho, hl, hb, hc5, hk5⟩
  have hk25 := hk2.trans (hk3.trans (hk4.trans hk5))
  have hk := k0.trans hk25
  have bR := b0.kept (Nat.ne_of_gt hg) hk25
  have hnb : w.heap.size ∉ [b] := fun h => by
    rw [List.mem_singleton] at h
    have h1 := (hk2.trans (hk3.trans hk4)).1
    rw [World.size_alloc] at h1
    omega
  have hbw : w.heap.size ≤ b := Nat.le_trans (k0.trans (hk2.trans (hk3.trans hk4))).1 hb
  have HI := hid (show Record.ok ⟨x1, 1 + x2, 1 + x3, fs⟩ from ⟨by simp only [I64]; omega, by simp only [I64]; omega, by simp only [I64]; omega⟩)
  clear hb hc hc0 k0 b0 hc2 hc3 hc4 hk2 hk3 hk4 hk5 hk25 hg2 hg3 hg4
  obtain ⟨cR, fR⟩ := bR.cells
  go_wp2
  have b9 : Blk ((((w5.setCell ⟨w.heap.size, 0, none⟩ (.int .i64 x1)).setCell ⟨w.heap.size, 1, none⟩ (.int .i64 (1 + x2))).setCell ⟨w.heap.size, 2, none⟩ (.int .i64 (1 + x3))).setCell ⟨w.heap.size, 3, none⟩ (.slice (some ⟨b, 0, none⟩) 4 4)) w.heap.size 72 [.int .i64 x1, .int .i64 (1 + x2), .int .i64 (1 + x3), .slice (some ⟨b, 0, none⟩) 4 4] := ((((bR.setAt 0 (by show 0 < 4; decide) (.int .i64 x1)).setAt 1 (by show 1 < 4; decide) (.int .i64 (1 + x2))).setAt 2 (by show 2 < 4; decide) (.int .i64 (1 + x3))).setAt 3 (by show 3 < 4; decide) (.slice (some ⟨b, 0, none⟩) 4 4))
  have r0 : ((((w5.setCell ⟨w.heap.size, 0, none⟩ (.int .i64 x1)).setCell ⟨w.heap.size, 1, none⟩ (.int .i64 (1 + x2))).setCell ⟨w.heap.size, 2, none⟩ (.int .i64 (1 + x3))).setCell ⟨w.heap.size, 3, none⟩ (.slice (some ⟨b, 0, none⟩) 4 4)).cell? ⟨w.heap.size, 0, none⟩ = some (.int .i64 x1) := b9.cells.1 0
  have r1 : ((((w5.setCell ⟨w.heap.size, 0, none⟩ (.int .i64 x1)).setCell ⟨w.heap.size, 1, none⟩ (.int .i64 (1 + x2))).setCell ⟨w.heap.size, 2, none⟩ (.int .i64 (1 + x3))).setCell ⟨w.heap.size, 3, none⟩ (.slice (some ⟨b, 0, none⟩) 4 4)).cell? ⟨w.heap.size, 1, none⟩ = some (.int .i64 (1 + x2)) := b9.cells.1 1
  have r2 : ((((w5.setCell ⟨w.heap.size, 0, none⟩ (.int .i64 x1)).setCell ⟨w.heap.size, 1, none⟩ (.int .i64 (1 + x2))).setCell ⟨w.heap.size, 2, none⟩ (.int .i64 (1 + x3))).setCell ⟨w.heap.size, 3, none⟩ (.slice (some ⟨b, 0, none⟩) 4 4)).cell? ⟨w.heap.size, 2, none⟩ = some (.int .i64 (1 + x3)) := b9.cells.1 2
  have r3 : ((((w5.setCell ⟨w.heap.size, 0, none⟩ (.int .i64 x1)).setCell ⟨w.heap.size, 1, none⟩ (.int .i64 (1 + x2))).setCell ⟨w.heap.size, 2, none⟩ (.int .i64 (1 + x3))).setCell ⟨w.heap.size, 3, none⟩ (.slice (some ⟨b, 0, none⟩) 4 4)).cell? ⟨w.heap.size, 3, none⟩ = some (.slice (some ⟨b, 0, none⟩) 4 4) := b9.cells.1 3
  have k9 : Kept g w ((((w5.setCell ⟨w.heap.size, 0, none⟩ (.int .i64 x1)).setCell ⟨w.heap.size, 1, none⟩ (.int .i64 (1 + x2))).setCell ⟨w.heap.size, 2, none⟩ (.int .i64 (1 + x3))).setCell ⟨w.heap.size, 3, none⟩ (.slice (some ⟨b, 0, none⟩) 4 4)) := ((((hk.setN (Nat.le_refl _) _).setN (Nat.le_refl _) _).setN (Nat.le_refl _) _).setN (Nat.le_refl _) _)
  have c9 : Cur w0 ((((w5.setCell ⟨w.heap.size, 0, none⟩ (.int .i64 x1)).setCell ⟨w.heap.size, 1, none⟩ (.int .i64 (1 + x2))).setCell ⟨w.heap.size, 2, none⟩ (.int .i64 (1 + x3))).setCell ⟨w.heap.size, 3, none⟩ (.slice (some ⟨b, 0, none⟩) 4 4)) g := ((((hc5.setN hg _).setN hg _).setN hg _).setN hg _)
  have o9 := ((((ho.setCell (p := ⟨w.heap.size, 0, none⟩) hnb (.int .i64 x1)).setCell (p := ⟨w.heap.size, 1, none⟩) hnb (.int .i64 (1 + x2))).setCell (p := ⟨w.heap.size, 2, none⟩) hnb (.int .i64 (1 + x3))).setCell (p := ⟨w.heap.size, 3, none⟩) hnb (.slice (some ⟨b, 0, none⟩) 4 4))
  refine bodyPost_ret (v := .agg #[.int .i64 x1, .int .i64 (1 + x2), .int .i64 (1 + x3), .slice (some ⟨b, 0, none⟩) 4 4]) (by simp [results, Tryz.results156, go_sem, r0, r1, r2, r3]) rfl ?_
  exact ⟨b, ⟨x1, 1 + x2, 1 + x3, fs⟩, rfl, HI.out, o9, hl, hbw, c9, k9⟩

end Go.Proofs.YtfcbapaojoecgaaGreat
