/-
  WALK: AddVerdict (the program's).
-/
import Derived.Test.YtblggajfdhjmjaaAddV
namespace Go.Proofs.Ytblggajfdhjmjaa
open Go.RowKit

set_option maxHeartbeats 2000000 in
set_option maxRecDepth 20000 in
theorem impl_AddVerdict (v : Value) (xs : List Verdict) (x : Verdict) (w : World) (h : Sl verdictR w v xs) (hl : xs.length ≤ 1048576) :
    Calls Try.prog 14 #[v, .agg #[.int .i64 x.a, .int .i64 x.b, .bool x.same, .int .i64 x.time]] w (VsOut w · · (addV xs x)) := by
  obtain ⟨A, cap, rfl, hm⟩ := h.form
  have xb : Ext w (w.alloc (.cells #[.int .i64 x.a, .int .i64 x.b, .bool x.same, .int .i64 x.time] 30)) := (Ext.refl w).alloc _
  have HBX := hid (show ∀ W, Ext (w.alloc (.cells #[.int .i64 x.a, .int .i64 x.b, .bool x.same, .int .i64 x.time] 30)) W → W.cell? ⟨w.heap.size, 0, none⟩ = some (.int .i64 x.a) ∧ W.cell? ⟨w.heap.size, 1, none⟩ = some (.int .i64 x.b) ∧ W.cell? ⟨w.heap.size, 2, none⟩ = some (.bool x.same) ∧ W.cell? ⟨w.heap.size, 3, none⟩ = some (.int .i64 x.time) from fun W y => ⟨y.box.1 0, y.box.1 1, y.box.1 2, y.box.1 3⟩)
  go_enter Try.func14, Try.ntmps14
  go_wp2_with fail
  refine (slices_Clone_vB _ xs _ (h.mono xb) hl).mono ?_
  rintro e w1 ⟨v1, rfl, hB, x1⟩
  go_wp2_with fail
  refine (impl_AreVerdicts _ xs _ (h.mono (xb.trans x1))).mono ?_
  rintro e w2 ⟨rfl, x2⟩
  cases hv : areVers xs with
  | false =>
    have HR := hid (addV_no (xs := xs) (x := x) (fun k => by rw [hv] at k; cases k.1))
    clear hv
    obtain ⟨F3, d1, d2, d3⟩ := hB.done
    go_wp2
    refine bodyPost_ret (v := .tuple #[v1, .bool false]) (by simp [results, Try.results14, go_sem]) rfl ?_
    exact ⟨_, F3, by rw [HR.out], by rw [HR.out]; exact d1.ext x2, NewF.ext xb ⟨d2, d3⟩, (xb.trans x1).trans x2⟩
  | true =>
    obtain ⟨hasc, _, h8⟩ := areVers_asc hv
    obtain ⟨b0, b1, b2, b3⟩ := HBX.out _ (x1.trans x2)
    go_wp2_with fail
    refine (impl_valid x _).mono ?_
    rintro e w3 ⟨rfl, x3⟩
    have x23 := x2.trans x3
    clear b0 b1 b2 b3 x2 x3
    cases hk : okV x with
    | false =>
      have HR := hid (addV_no (xs := xs) (x := x) (fun k => by rw [hk] at k; cases k.2.1))
      clear hk hv
      obtain ⟨F3, d1, d2, d3⟩ := hB.done
      go_wp2
      refine bodyPost_ret (v := .tuple #[v1, .bool false]) (by simp [results, Try.results14, go_sem]) rfl ?_
      exact ⟨_, F3, by rw [HR.out], by rw [HR.out]; exact d1.ext x23, NewF.ext xb ⟨d2, d3⟩, (xb.trans x1).trans x23⟩
    | true =>
      by_cases h88 : xs.length = 8
      · have h8' : ((xs.length : Int) == 8) = true := by simp [h88]
        have HR := hid (addV_no (xs := xs) (x := x) (fun k => k.2.2.2 h88))
        clear hk hv h88
        obtain ⟨F3, d1, d2, d3⟩ := hB.done
        go_wp2
        refine bodyPost_ret (v := .tuple #[v1, .bool false]) (by simp [results, Try.results14, go_sem]) rfl ?_
        exact ⟨_, F3, by rw [HR.out], by rw [HR.out]; exact d1.ext x23, NewF.ext xb ⟨d2, d3⟩, (xb.trans x1).trans x23⟩
      · have h8' : ((xs.length : Int) == 8) = false := by simp; omega
        have HY := hid (show idxV xs x = -1 → addV xs x = (putV xs x, true) from fun hj => addV_yes ⟨hv, hk, hj, h88⟩)
        have HOKX := hid (okV_verok hk)
        have H88 := hid h88
        obtain ⟨b0, b1, b2, b3⟩ := HBX.out _ (x1.trans x23)
        clear hk hv h88
        go_wp2_with fail
        refine (slices_BSF_v _ xs x _ (h.mono ((xb.trans x1).trans x23)) hasc h8).mono ?_
        rintro e w4 ⟨rfl, x4⟩
        have x24 := x23.trans x4
        clear b0 b1 b2 b3 x23 x4
        cases hmem : memV xs x with
        | true =>
          have HR := hid (addV_no (xs := xs) (x := x) (fun k => by
            have hm := (memV_iff xs x).1 hmem
            rcases idxV_cases xs x with ⟨_, hn⟩ | ⟨j, _, hj, _⟩
            · exact hn hm
            · rw [hj] at k; exact absurd k.2.2.1 (by omega)))
          clear hmem
          obtain ⟨F3, d1, d2, d3⟩ := hB.done
          go_wp2
          refine bodyPost_ret (v := .tuple #[v1, .bool false]) (by simp [results, Try.results14, go_sem]) rfl ?_
          exact ⟨_, F3, by rw [HR.out], by rw [HR.out]; exact d1.ext x24, NewF.ext xb ⟨d2, d3⟩, (xb.trans x1).trans x24⟩
        | false =>
          have HR := hid (HY.out (by
            rcases idxV_cases xs x with ⟨hj, _⟩ | ⟨j, hjl, _, e⟩
            · exact hj
            · have : memV xs x = true := (memV_iff xs x).2 (e ▸ List.getElem_mem hjl)
              rw [hmem] at this; cases this))
          obtain ⟨b0, b1, b2, b3⟩ := HBX.out _ (x1.trans x24)
          have hB5 := hB.ext (x24.trans ((Ext.refl w4).alloc (.cells #[.int .i64 x.a, .int .i64 x.b, .bool x.same, .int .i64 x.time] 30)))
          have hlt5 := (hB.ext x24).lt
          have hsz := hB.lt
          obtain ⟨cs, q1, q2, q3, q4, q5⟩ := hB5
          obtain ⟨hfl, hoks, _⟩ := vers_flat q2
          have hle := cntV_le xs x
          have hne : v1.ownBlock ≠ some w4.heap.size := fun e => by have := (hlt5.2 _ e).1; omega
          have hbase : (w.alloc (.cells #[.int .i64 x.a, .int .i64 x.b, .bool x.same, .int .i64 x.time] 30)).heap.size ≤ (w4.alloc (.cells #[.int .i64 x.a, .int .i64 x.b, .bool x.same, .int .i64 x.time] 30)).heap.size := ((x1.trans x24).trans ((Ext.refl w4).alloc (.cells #[.int .i64 x.a, .int .i64 x.b, .bool x.same, .int .i64 x.time] 30))).size
          have hq4 : xs.length ≤ 1048576 := hl
          have ho1 : ∀ u ∈ cs, u.oneCell' = true := by rw [hfl]; exact vers_one _
          have HINS := hid (slices_Insert_v v1 cs x.cells xs.length (cntV xs x) (w.alloc (.cells #[.int .i64 x.a, .int .i64 x.b, .bool x.same, .int .i64 x.time] 30)).heap.size w4.heap.size (w4.alloc (.cells #[.int .i64 x.a, .int .i64 x.b, .bool x.same, .int .i64 x.time] 30)) q1 hle hq4 hbase rfl (heap_alloc_new w4 _) hne ho1 (by simp [Verdict.cells, Value.oneCell']))
          have HFL := hid (And.intro hfl hoks)
          have xw5 := (xb.trans x1).trans (x24.trans ((Ext.refl w4).alloc (.cells #[.int .i64 x.a, .int .i64 x.b, .bool x.same, .int .i64 x.time] 30)))
          clear hB q1 q2 q3 q4 q5 hfl hoks hsz hlt5 hne hbase ho1 hmem
          go_wp2_with fail
          refine HINS.out.mono ?_
          rintro e w6 ⟨v6, rfl, r1, r2, r3, r4⟩
          have hlen := putV_len xs x
          have hB6 : Bld verdictO w6 (w.alloc (.cells #[.int .i64 x.a, .int .i64 x.b, .bool x.same, .int .i64 x.time] 30)).heap.size 30 v6 (putV xs x) [] := by
            refine ⟨_, by rw [hlen]; exact r1, ?_, fun _ _ h9 => (by cases h9), List.nodup_nil, fun _ h9 => by cases h9⟩
            have e1 : cs.take (cntV xs x * 4) ++ (x.cells ++ cs.drop (cntV xs x * 4)) = (putV xs x).flatMap Verdict.cells := by
              unfold putV
              rw [List.flatMap_append, List.flatMap_cons, vflat_take, vflat_drop, HFL.out.1]
            rw [e1]
            refine vers_own _ (fun y hy => ?_) _
            unfold putV at hy
            rcases List.mem_append.1 hy with hy | hy
            · exact HFL.out.2 y (List.mem_of_mem_take hy)
            · rcases List.mem_cons.1 hy with rfl | hy
              · exact HOKX.out
              · exact HFL.out.2 y (List.mem_of_mem_drop hy)
          obtain ⟨F3, d1, d2, d3⟩ := hB6.done
          go_wp2
          refine bodyPost_ret (v := .tuple #[v6, .bool true]) (by simp [results, Try.results14, go_sem]) rfl ?_
          exact ⟨_, F3, by rw [HR.out], by rw [HR.out]; exact d1, NewF.ext xb ⟨d2, d3⟩, r2 w (by rw [World.size_alloc]; omega) xw5⟩
end Go.Proofs.Ytblggajfdhjmjaa
