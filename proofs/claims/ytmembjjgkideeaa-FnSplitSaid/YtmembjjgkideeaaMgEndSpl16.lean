/-
  WALKS: linked, clash (the program's labels).
-/
import Derived.Test.YtmembjjgkideeaaMgEndSpl14
import Derived.Test.YtmembjjgkideeaaMgEndSpl0
import Derived.Test.YtmembjjgkideeaaMgEndSpl8
import Derived.Deep.WholeRow
import Derived.Laws.ResultCell

namespace Go.Proofs.Ytmembjjgkideeaa
open Go.RowKit

theorem wp_load_row {P : Program} {o : Oper} {a : Act} {w : World} {K : Act → World → Prop} {Q : Exit → Act → World → Prop} (t : TypeId) (p : Operand) (ho : o.op = .load t p) {g : Nat} (hp : a.eval p = .pointer (some ⟨g, 0, none⟩)) {cs : Array Value}
    (hld : (loadVar t ⟨g, 0, none⟩).run P w = .ok (.agg cs) w) (h : K (a.put o.dst (.agg cs)) w) : Oper.wp P o a w K Q := by
  unfold Oper.wp execOp
  simp only [ho, Instr.loadAt, Instr.sureAddr, Sem.run_bind, Sem.run_pure, Result.andThen_ok, hp, hld]
  exact h
theorem wp_store_row {P : Program} {o : Oper} {a : Act} {w w' : World} {K : Act → World → Prop} {Q : Exit → Act → World → Prop} (t : TypeId) (p q : Operand) (ho : o.op = .store t p q) {g : Nat} (hp : a.eval p = .pointer (some ⟨g, 0, none⟩)) {v : Value} (hv : a.eval q = v)
    (hst : (storeVar t ⟨g, 0, none⟩ v).run P w = .ok () w') (h : K (a.put o.dst undef) w') : Oper.wp P o a w K Q := by
  unfold Oper.wp execOp
  simp only [ho, Instr.storeAt, Instr.sureAddr, Sem.run_bind, Sem.run_pure, Result.andThen_ok, hp, hv, hst]
  exact h
theorem Ext.setRow {w0 w : World} (h : Ext w0 w) {g : Nat} (hg : w0.heap.size ≤ g) (c : Array Value) : Ext w0 (w.setRow g c) := by
  refine ⟨h.os, h.tape, h.output, ?_, fun k hk => ?_⟩
  · have := h.size
    simpa [World.setRow] using this
  · rw [← h.block hk]
    simp only [World.setRow, Array.getElem?_modify]
    rw [if_neg (by omega)]
/-- labels as an array's cells -/
def lab (L : Int → Int) : List Value := (List.range 400).map fun x => .int .i64 (L (x : Nat))
theorem lab_len (L : Int → Int) : (lab L).length = 400 := by simp [lab]
theorem lab_at (L : Int → Int) {i : Nat} (h : i < 400) : (lab L)[i]? = some (.int .i64 (L i)) := by simp [lab, h]
theorem lab_one (L : Int → Int) : ((lab L).toArray.all fun v => v.oneCell') = true := by
  rw [Array.all_eq_true_iff_forall_mem]
  intro v hv
  have hv2 := List.mem_toArray.1 hv
  unfold lab at hv2
  obtain ⟨x, _, rfl⟩ := List.mem_map.1 hv2
  rfl
theorem lab_congr {L M : Int → Int} (h : ∀ x : Nat, x < 400 → L x = M x) : lab L = lab M := by
  unfold lab
  apply List.map_congr_left
  intro x hx
  rw [h x (List.mem_range.1 hx)]
theorem lab_set (L : Int → Int) {i : Nat} (u : Int) : (lab L).set i (.int .i64 u) = lab fun y => if y = (i : Int) then u else L y := by
  apply List.ext_getElem (by simp [lab])
  intro k h1 h2
  simp only [lab, List.getElem_set, List.getElem_map, List.getElem_range]
  by_cases hq : i = k
  · subst hq; simp
  · rw [if_neg hq, if_neg (by omega)]
theorem lab_to {w : World} {g : Nat} {T : TypeId} {L M : Int → Int} (h : Blk w g T (lab L)) (e : ∀ x : Nat, x < 400 → L x = M x) : Blk w g T (lab M) := lab_congr e ▸ h
theorem infoArr : (Try.prog.info? 67).map (fun i => (i.zero, i.size)) = some (some (.agg (Array.replicate 400 (.int .i64 0))), 400) := by kernel_rfl
theorem lab_zero : lab (fun _ => 0) = (Array.replicate 400 (Value.int .i64 0)).toList := by
  apply List.ext_getElem (by rw [lab_len, Array.toList_replicate, List.length_replicate])
  intro k h1 h2
  simp only [lab, List.getElem_map, Array.toList_replicate, List.getElem_replicate]
theorem okV_in {v : Verdict} (h : okV v = true) : (∃ n : Nat, v.a = n ∧ n < 400) ∧ ∃ n : Nat, v.b = n ∧ n < 400 := by
  unfold okV inB at h
  simp only [Bool.and_eq_true, decide_eq_true_eq] at h
  exact ⟨⟨v.a.toNat, by omega, by omega⟩, ⟨v.b.toNat, by omega, by omega⟩⟩

set_option maxHeartbeats 4000000 in
set_option maxRecDepth 20000 in
theorem impl_linked (v : Value) (xs : List Verdict) (w : World) (h : Sl verdictR w v xs) (hok : ∀ x ∈ xs, okV x = true) :
    Calls Try.prog 45 #[v] w fun e w2 => e = .returned (.agg (lab (linkL xs)).toArray) ∧ Ext w w2 := by
  obtain ⟨A, cap, rfl, hm⟩ := h.form
  obtain ⟨hz, hi⟩ := zero_of_info infoArr
  obtain ⟨Z, hZ⟩ : ∃ Z, Z = Array.replicate 400 (Value.int .i64 0) := ⟨_, rfl⟩
  rw [← hZ] at hz
  have HZ := hid (show Z.toList = lab fun _ => 0 by rw [hZ]; exact lab_zero.symm)
  have HOK := hid hok
  have HI := hid hi
  clear hZ hi hok
  go_enter Try.func45, Try.ntmps45
  go_wp2
  obtain ⟨w1, hw1⟩ : ∃ w1, w1 = (w.alloc (.cells Z 67)).alloc (.cells Z 67) := ⟨_, rfl⟩
  obtain ⟨gR, hgR⟩ : ∃ gR, gR = w.heap.size := ⟨_, rfl⟩
  obtain ⟨gO, hgO⟩ : ∃ gO, gO = w.heap.size + 1 := ⟨_, rfl⟩
  have hR1 : Blk w1 gR 67 Z.toList := by rw [hw1, hgR]; exact (Blk.new w 67 Z).ext ((Ext.refl _).alloc _)
  have hO1 : Blk w1 gO 67 (lab fun _ => 0) := by
    rw [← HZ.out, hw1, hgO]
    have := Blk.new (w.alloc (.cells Z 67)) 67 Z
    rwa [World.size_alloc] at this
  have x1 : Ext w w1 := by rw [hw1]; exact ((Ext.refl _).alloc _).alloc _
  have hRO : ¬ gO = gR := by omega
  have hOw : w.heap.size ≤ gO := by omega
  have HRW := hid (show w.heap.size ≤ gR by omega)
  rw [← hw1, ← hgO, ← hgR]
  clear hw1 hgR hgO hz
  go_loopw [10] (fun i wr => ∃ k : Nat, k ≤ 400 ∧ i = .int .i64 k ∧ Blk wr gR 67 Z.toList ∧ Blk wr gO 67 (lab fun y => if y < (k : Int) then y else 0) ∧ Ext w wr) (fun i _ => 400 - (intOf i).toNat)
  case atStart => exact ⟨0, by omega, rfl, hR1, lab_to hO1 fun x _ => (if_neg (by omega)).symm, x1⟩
  case round =>
    clear hR1 hO1 x1
    obtain ⟨k, hk, rfl, hR, hO, hx⟩ := hrel
    by_cases hlt : k < 400
    · have hlt' : (k : Int) < 400 := by omega
      obtain ⟨c0, f0⟩ := hO.cells
      have c1 : wr.cell? ⟨gO, k, none⟩ = _ := (c0 k).trans (lab_at _ hlt)
      have f1 := f0 k
      have HO := hid (hO.setAt k (by rw [lab_len]; exact hlt) (.int .i64 k))
      have HR := hid (hR.other (i := k) (u := .int .i64 k) (fun e => hRO e.symm))
      clear c0 f0 hO hR
      go_wp2
      go_roundw
      case rel => exact ⟨k + 1, by omega, by go_num, HR.out, lab_to (by have := HO.out; rw [lab_set] at this; exact this) (fun x _ => by
          by_cases hq : x = k
          · subst hq; rw [if_pos rfl, if_pos (by omega)]
          · rw [if_neg (by omega)]
            by_cases hq2 : x < k
            · rw [if_pos (by omega), if_pos (by omega)]
            · rw [if_neg (by omega), if_neg (by omega)]), hx.setCell hOw _⟩
      case measure => simp [intOf]; omega
    · have hk4 : k = 400 := by omega
      have hO2 : Blk wr gO 67 (lab (linkL [])) := lab_to hO fun x hx => by rw [if_pos (by omega)]; rfl
      clear hO
      go_wp2
      clear hk4 hlt
      go_loopw [19] (fun i wr => ∃ n : Nat, n ≤ xs.length ∧ i = .int .i64 n ∧ Blk wr gR 67 Z.toList ∧ Blk wr gO 67 (lab (linkL (xs.take n))) ∧ Ext w wr) (fun i _ => xs.length - (intOf i).toNat)
      case atStart => exact ⟨0, Nat.zero_le _, rfl, hR, hO2, hx⟩
      case round =>
        clear hR hO2 hx hk
        obtain ⟨n, hn, rfl, hR, hO, hx⟩ := hrel
        by_cases hln : n < xs.length
        · obtain ⟨b, off, eA, _, q0, q1, q2, q3⟩ := (h.mono hx).verdict hln
          cases eA
          have HST := hid (show linkL (xs.take (n + 1)) = linkV (linkL (xs.take n)) xs[n] by rw [List.take_succ_eq_append_getElem hln, linkL, List.foldl_append]; rfl)
          obtain ⟨⟨na, ea, hna⟩, nb, eb, hnb⟩ := okV_in (HOK.out xs[n] (List.getElem_mem hln))
          have HLV := hid (show linkV (linkL (xs.take n)) xs[n] = if xs[n].same = true then linkS (linkL (xs.take n)) na nb else linkL (xs.take n) by unfold linkV; rw [ea, eb])
          rw [ea] at q0
          rw [eb] at q1
          obtain ⟨L, hL⟩ : ∃ L, L = linkL (xs.take n) := ⟨_, rfl⟩
          rw [← hL] at hO HST HLV
          obtain ⟨sm, hsm⟩ : ∃ sm, sm = xs[n].same := ⟨_, rfl⟩
          rw [← hsm] at q2 HLV
          clear hL hsm ea eb
          have xb : Ext wr (wr.alloc (.cells #[.int .i64 (na : Int), .int .i64 (nb : Int), .bool sm, .int .i64 xs[n].time] 32)) := (Ext.refl wr).alloc _
          cases sm with
          | false =>
            have HR := hid (hR.ext xb)
            have HO := hid (hO.ext xb)
            have HX := hid (hx.trans xb)
            clear hR hO hx xb
            go_wp2
            go_roundw
            case rel => exact ⟨n + 1, by omega, by go_num, HR.out, by rw [HST.out, HLV.out]; exact HO.out, HX.out⟩
            case measure => simp [intOf]; omega
          | true =>
            have hRb := hR.ext xb
            have hOb := hO.ext xb
            have hxb := hx.trans xb
            have bb := Blk.new wr 32 #[.int .i64 (na : Int), .int .i64 (nb : Int), .bool true, .int .i64 xs[n].time]
            have hgOb := block_lt hO.out
            clear hR hO hx xb
            obtain ⟨wb, hwb⟩ : ∃ wb, wb = wr.alloc (.cells #[.int .i64 (na : Int), .int .i64 (nb : Int), .bool true, .int .i64 xs[n].time] 32) := ⟨_, rfl⟩
            rw [← hwb] at hRb hOb hxb bb
            have z0 : ∀ z : ExtOf wb, z.1.cell? ⟨wr.heap.size, 0, none⟩ = some (.int .i64 (na : Int)) := fun z => (bb.ext z.2).cells.1 0
            have z1 : ∀ z : ExtOf wb, z.1.cell? ⟨wr.heap.size, 1, none⟩ = some (.int .i64 (nb : Int)) := fun z => (bb.ext z.2).cells.1 1
            have y0 : ∀ z : ExtOf wb, z.1.cell? ⟨gO, na, none⟩ = some (.int .i64 (L na)) := fun z => ((hOb.ext z.2).cells.1 na).trans (lab_at L hna)
            have y1 : ∀ z : ExtOf wb, z.1.cell? ⟨gO, nb, none⟩ = some (.int .i64 (L nb)) := fun z => ((hOb.ext z.2).cells.1 nb).trans (lab_at L hnb)
            have hna' : (na : Int) < 400 := by omega
            have hnb' : (nb : Int) < 400 := by omega
            go_wp2_with fail
            rw [← hwb]
            refine wp_region_ext (by kernel_rfl) (by kernel_rfl) ?_
            repeat (go_big_quiet_step ((fail)))
            refine wpQuiet_nil ?_
            rintro w5 ⟨⟨_, x5⟩, rfl⟩
            have HX5 := hid (hxb.trans x5)
            have HR5 := hid (hRb.ext x5)
            have HO5 := hid (hOb.ext x5)
            clear hRb hOb hxb bb z0 z1 y0 y1 hwb x5
            go_wp2
            go_loopw [34] (fun i wq => ∃ y : Nat, y ≤ 400 ∧ i = .int .i64 y ∧ Blk wq gR 67 Z.toList ∧ Blk wq gO 67 (lab fun z => if z < (y : Int) then linkS L na nb z else L z) ∧ Ext w wq) (fun i _ => 400 - (intOf i).toNat)
            case atStart => exact ⟨0, by omega, rfl, HR5.out, lab_to HO5.out fun x _ => (if_neg (by omega)).symm, HX5.out⟩
            case round =>
              clear HR5 HO5 HX5
              obtain ⟨y, hy, rfl, hR, hO, hx⟩ := hrel
              by_cases hyl : y < 400
              · have hyl' : (y : Int) < 400 := by omega
                have c0 : wr.cell? ⟨gO, y, none⟩ = some (.int .i64 (L y)) := by
                  have := (hO.cells.1 y).trans (lab_at _ hyl)
                  rwa [if_neg (by omega)] at this
                have f0 := hO.cells.2 y
                by_cases hmx : L y = max (L na) (L nb)
                · have e1 : (L y == max (L na) (L nb)) = true := by simp [hmx]
                  have HS := hid (show linkS L na nb y = (if L nb < L na then L nb else L na) by unfold linkS; rw [if_pos hmx]; split <;> omega)
                  have HO := hid (hO.setAt y (by rw [lab_len]; exact hyl) (.int .i64 (if L nb < L na then L nb else L na)))
                  have HR := hid (hR.other (i := y) (u := .int .i64 (if L nb < L na then L nb else L na)) (fun e => hRO e.symm))
                  clear hO hR hmx
                  go_wp2
                  go_roundw
                  case rel => exact ⟨y + 1, by omega, by go_num, HR.out, lab_to (by have := HO.out; rw [lab_set] at this; exact this) (fun x _ => by
                    by_cases hq : x = y
                    · subst hq; refine (if_pos rfl).trans (HS.out.symm.trans (if_pos (by omega)).symm)
                    · rw [if_neg (by omega)]
                      by_cases hq2 : x < y
                      · rw [if_pos (by omega), if_pos (by omega)]
                      · rw [if_neg (by omega), if_neg (by omega)]), hx.setCell hOw _⟩
                  case measure => simp [intOf]; omega
                · have e1 : (L y == max (L na) (L nb)) = false := by simp [hmx]
                  have HS := hid (show linkS L na nb y = L y by unfold linkS; rw [if_neg hmx])
                  have HO := hid hO
                  have HR := hid hR
                  clear hO hR hmx
                  go_wp2
                  go_roundw
                  case rel => exact ⟨y + 1, by omega, by go_num, HR.out, lab_to HO.out (fun x _ => by
                    by_cases hq : x = y
                    · subst hq; rw [if_neg (by omega), if_pos (by omega)]; exact HS.out.symm
                    · by_cases hq2 : x < y
                      · rw [if_pos (by omega), if_pos (by omega)]
                      · rw [if_neg (by omega), if_neg (by omega)]), hx⟩
                  case measure => simp [intOf]; omega
              · have HO := hid (lab_to (M := linkS L na nb) hO fun x _ => if_pos (by omega))
                have HR := hid hR
                clear hO hR
                go_wp2
                go_roundw
                case rel => exact ⟨n + 1, by omega, by go_num, HR.out, by rw [HST.out, HLV.out]; exact HO.out, hx⟩
                case measure => simp [intOf]; omega
        · rw [List.take_of_length_le (by omega)] at hO
          have hsz : ((lab (linkL xs)).toArray).size = 400 := by rw [List.size_toArray, lab_len]
          have hld := run_loadVar_row (P := Try.prog) wr gO 67 67 (lab (linkL xs)).toArray (0, 0) _ (by simpa using hO.out) Try.underlying67 rfl (by rw [hsz]; exact HI.out)
          go_wp2_with fail
          refine wp_load_row 67 _ rfl rfl hld ?_
          have hzs : Z.size = (lab (linkL xs)).toArray.size := by rw [hsz, ← Array.length_toList, HZ.out, lab_len]
          have hgR : wr.heap[gR]? = some (.cells Z 67 (0, 0)) := by simpa using hR.out
          have hst := run_storeVar_row (P := Try.prog) wr gR 67 67 Z (lab (linkL xs)).toArray hgR (by rw [hsz]; exact HI.out) hzs (lab_one _)
          have hld2 := run_loadVar_row (P := Try.prog) (wr.setRow gR (lab (linkL xs)).toArray) gR 67 67 (lab (linkL xs)).toArray (0, 0) _ (setRow_heap wr gR Z _ _ _ hgR) Try.underlying67 rfl (by rw [hsz]; exact HI.out)
          have HXW := hid (hx.setRow HRW.out (lab (linkL xs)).toArray)
          have hst2 : (storeCells ⟨gR, 0, none⟩ (lab (linkL xs))).run Try.prog wr = .ok () (wr.setRow gR (lab (linkL xs)).toArray) := by
            have h9 := hst
            unfold storeVar at h9
            exact h9
          have HLD := hid hld2
          clear hst hld hld2 hsz hzs hgR hR hO hx h hm
          go_wp2_with fail
          have hld3 := HLD.out
          refine bodyPost_ret (v := .agg (lab (linkL xs)).toArray) (by simp [results, Try.results45, asAddr, Result.andThen, hld3]) rfl ?_
          exact ⟨rfl, HXW.out⟩
end Go.Proofs.Ytmembjjgkideeaa
