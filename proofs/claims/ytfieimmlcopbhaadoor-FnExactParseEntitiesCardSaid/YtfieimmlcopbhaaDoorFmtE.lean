/-
  WALKS: FormatEntities (both).
-/
import Derived.Test.YtfieimmlcopbhaaDoorJoin
import Derived.Test.YtfieimmlcopbhaaDoorEnts
import Derived.Test.YtfieimmlcopbhaaDoorReg
namespace Go.Proofs.YtfieimmlcopbhaaDoor
open Go.RowKit

/-- the text of an entity; of entities -/
def fmtEnt (e : Entity) : ByteArray := itoaS e.id ++ ⟨#[58]⟩ ++ joinS (e.members.map itoaS) ⟨#[44]⟩
def fmtEnts (xs : List Entity) : ByteArray := if areEnts xs = true then (if xs.length = 0 then ⟨#[110, 111, 110, 101]⟩ else joinS (xs.map fmtEnt) ⟨#[32]⟩) else ⟨#[]⟩
theorem fmtEnts_no {xs : List Entity} (h : ¬ areEnts xs = true) : fmtEnts xs = ⟨#[]⟩ := by unfold fmtEnts; rw [if_neg h]
theorem fmtEnts_none {xs : List Entity} (h : areEnts xs = true) (h0 : xs.length = 0) : fmtEnts xs = ⟨#[110, 111, 110, 101]⟩ := by unfold fmtEnts; rw [if_pos h, if_pos h0]
theorem fmtEnts_some {xs : List Entity} (h : areEnts xs = true) (h0 : ¬ xs.length = 0) : fmtEnts xs = joinS (xs.map fmtEnt) ⟨#[32]⟩ := by unfold fmtEnts; rw [if_pos h, if_neg h0]
theorem itoas_size {xs : List Int} (h : ∀ x ∈ xs, I64 x) : ∀ s ∈ xs.map itoaS, s.size ≤ 20 := fun s hs => by
  obtain ⟨y, hy, rfl⟩ := List.mem_map.1 hs
  exact itoaS_size (h y hy)
theorem Sl.ints_64 {w : World} {v : Value} {xs : List Int} (h : Sl intR w v xs) : ∀ x ∈ xs, I64 x := fun x hx => by
  obtain ⟨A, cap, rfl, _⟩ := h.form
  obtain ⟨i, hi, rfl⟩ := List.getElem_of_mem hx
  obtain ⟨_, _, _, h1, _⟩ := h.int hi
  exact h1
theorem joinI_size {xs : List Int} (h : ∀ x ∈ xs, I64 x) (hb : xs.length ≤ 1048576) : (joinS (xs.map itoaS) ⟨#[44]⟩).size ≤ 22020096 := by
  have h1 := joinS_size 20 ⟨#[44]⟩ _ (itoas_size h)
  rw [List.length_map] at h1
  have e1 : (⟨#[44]⟩ : ByteArray).size = 1 := rfl
  rw [e1] at h1
  omega
theorem joinI_take {xs : List Int} (h : ∀ x ∈ xs, I64 x) (hb : xs.length ≤ 1048576) (k : Nat) : (joinS ((xs.map itoaS).take k) ⟨#[44]⟩).size ≤ 22020096 := by
  have h1 := joinS_size 20 ⟨#[44]⟩ ((xs.map itoaS).take k) fun x hx => itoas_size h x (List.mem_of_mem_take hx)
  have e1 : (⟨#[44]⟩ : ByteArray).size = 1 := rfl
  have h2 : ((xs.map itoaS).take k).length ≤ 1048576 := by rw [List.length_take, List.length_map]; omega
  rw [e1] at h1
  omega
theorem fmtEnt_size {e : Entity} (hi : I64 e.id) (h : ∀ x ∈ e.members, I64 x) (hb : e.members.length ≤ 1048576) : (fmtEnt e).size ≤ 22020117 := by
  unfold fmtEnt
  have h1 := itoaS_size hi
  have h2 := joinI_size h hb
  have e1 : (⟨#[58]⟩ : ByteArray).size = 1 := rfl
  rw [ByteArray.size_append, ByteArray.size_append, e1]
  omega
theorem Sl.ents_size {w : World} {v : Value} {xs : List Entity} (h : Sl entityR w v xs) (hb : msEnts xs ≤ 1048576) : ∀ x ∈ xs.map fmtEnt, x.size ≤ 22020117 := fun x hx => by
  obtain ⟨A, cap, rfl, _⟩ := h.form
  obtain ⟨e, he, rfl⟩ := List.mem_map.1 hx
  obtain ⟨i, hi, rfl⟩ := List.getElem_of_mem he
  obtain ⟨_, _, _, _, _, hI, hsl, _⟩ := h.ent hi
  have := sumMem_at xs i hi
  unfold msEnts at hb
  exact fmtEnt_size hI hsl.ints_64 (by omega)
theorem ents_join_size {xs : List Entity} (h : ∀ x ∈ xs.map fmtEnt, x.size ≤ 22020117) (k : Nat) (hk : xs.length ≤ 1048576) : (joinS ((xs.map fmtEnt).take k) ⟨#[32]⟩).size ≤ 23089775247360 := by
  have h1 := joinS_size 22020117 ⟨#[32]⟩ ((xs.map fmtEnt).take k) fun x hx => h x (List.mem_of_mem_take hx)
  have e1 : (⟨#[32]⟩ : ByteArray).size = 1 := rfl
  rw [e1] at h1
  have h2 : ((xs.map fmtEnt).take k).length ≤ 1048576 := by rw [List.length_take, List.length_map]; omega
  omega
theorem elemStr : ElemT Tryd.prog 49 9 strO.n 16 := by
  obtain ⟨i, h1, h2, h3, h4⟩ := info_parts infoStr
  exact ⟨Tryd.underlying49, i, _, h1, h2, h3, h4, rfl⟩
theorem one_str (s : ByteArray) : ∀ u ∈ (#[Value.string s] : Array Value).toList, u.oneCell' = true := by simp [Value.oneCell']
theorem own_str (W : World) (s : ByteArray) (h : s.size ≤ maxLen) : strO.own W (#[Value.string s] : Array Value).toList s [] := ⟨⟨rfl, h⟩, rfl⟩

set_option maxHeartbeats 400000 in
set_option maxRecDepth 20000 in
theorem impl_FormatEntities (v : Value) (xs : List Entity) (w : World) (h : Sl entityR w v xs) (hb : msEnts xs ≤ 1048576) (T : Tab w) :
    Calls Tryd.prog 45 #[v] w fun e w2 => e = .returned (.string (fmtEnts xs)) ∧ Ext w w2 := by
  obtain ⟨A, cap, rfl, hm⟩ := h.form
  go_enter Tryd.func45, Tryd.ntmps45
  go_wp2_with fail
  refine (impl_AreEntities _ xs _ h hb).mono ?_
  rintro e w1 ⟨rfl, x1⟩
  by_cases hok : areEnts xs = true
  · rw [hok]
    have HO := hid hok
    clear hok
    by_cases h0 : xs.length = 0
    · have h0' : ((xs.length : Nat) : Int) = 0 := by omega
      go_wp2
      go_ret
      exact ⟨by rw [fmtEnts_none HO.out h0]; rfl, x1⟩
    · have HF := hid (fmtEnts_some HO.out h0)
      have HZ := hid (h.ents_size hb)
      have hn : xs.length ≤ 1048576 := by unfold msEnts at hb; omega
      have hz : (((xs.length : Nat) : Int) == 0) = false := by rw [beq_eq_false_iff_ne]; omega
      clear h0
      go_wp2
      go_loopw [3, 14] (fun t i wr => ∃ (k : Nat), k ≤ xs.length ∧ i = .int .i64 k ∧ Bld strO wr w.heap.size 9 t ((xs.take k).map fmtEnt) [] ∧ Ext w wr) (fun _ i _ => xs.length - (intOf i).toNat)
      case atStart => exact ⟨0, Nat.zero_le _, rfl, by simpa using Bld.nil w1 w.heap.size _, x1⟩
      case round =>
        obtain ⟨k, hk, rfl, hB, hx⟩ := hrel
        by_cases hlt : k < xs.length
        · obtain ⟨b, off, A2, cap2, rfl, hI, hsl, hc0, hc1⟩ := (h.mono hx).ent hlt
          have hml : xs[k].members.length ≤ 1048576 := by have := sumMem_at xs k hlt; unfold msEnts at hb; omega
          have s1 := itoaS_size hI
          have s2 := joinI_size hsl.ints_64 hml
          have s3 : (fmtEnt xs[k]).size ≤ maxLen := by have := HZ.out _ (List.mem_map_of_mem (List.getElem_mem hlt)); unfold maxLen; omega
          have hlen : ((xs.take k).map fmtEnt).length ≤ 1048576 := by rw [List.length_map, List.length_take]; omega
          have e58 : (⟨#[58]⟩ : ByteArray).size = 1 := rfl
          have q1 := run_cat (P := Tryd.prog) 9 (itoaS xs[k].id) ⟨#[58]⟩ (by omega)
          have q2 := run_cat (P := Tryd.prog) 9 (itoaS xs[k].id ++ ⟨#[58]⟩) (joinS (xs[k].members.map itoaS) ⟨#[44]⟩) (by rw [ByteArray.size_append]; omega)
          have HI := hid hI
          have HS3 := hid s3
          have z0 : ∀ q : ExtOf (wr.alloc (.cells #[.int .i64 xs[k].id, .slice A2 xs[k].members.length cap2] 70)), q.1.cell? ⟨wr.heap.size, 0, none⟩ = some (.int .i64 xs[k].id) := fun q => q.2.box.1 0
          have z1 : ∀ q : ExtOf (wr.alloc (.cells #[.int .i64 xs[k].id, .slice A2 xs[k].members.length cap2] 70)), q.1.cell? ⟨wr.heap.size, 1, none⟩ = some (.slice A2 xs[k].members.length cap2) := fun q => q.2.box.1 1
          have TZ : ∀ q : ExtOf (wr.alloc (.cells #[.int .i64 xs[k].id, .slice A2 xs[k].members.length cap2] 70)), Tab q.1 := fun q => T.mono ((hx.alloc _).trans q.2)
          have SZ : ∀ q : ExtOf (wr.alloc (.cells #[.int .i64 xs[k].id, .slice A2 xs[k].members.length cap2] 70)), Sl intR q.1 (.slice A2 xs[k].members.length cap2) xs[k].members := fun q => hsl.mono (((Ext.refl _).alloc _).trans q.2)
          clear hI s3
          go_wp2_with fail
          refine wp_region_ext1 8 (by kernel_rfl) (by kernel_rfl) rfl rfl (fun _ _ _ _ h => h) ?_
          simp only [List.take_succ_cons, List.take_zero, List.drop_succ_cons, List.drop_zero]
          repeat (go_big_quiet_step (((first | (go_at_call 33; exact quiet_ext (impl_FormatInt _ _ HI.out (TZ _))) | (go_at_call 71; exact quiet_ext (impl_joinInts _ xs[k].members ⟨#[44]⟩ _ (SZ _) hml (Nat.le_add_left 1 99) (TZ _)))))))
          refine wpQuiet_nil ?_
          rintro w3 ⟨⟨_, x3⟩, rfl⟩
          have hy : Ext wr w3 := ((Ext.refl _).alloc _).trans x3
          have hB2 := hB.ext hy
          have hbs := (hx.trans hy).size
          go_wp2_with (at_builtin; refine wpList_app1 elemStr (by decide) rfl _ _ rfl hB2 rfl w3.heap.size 1 rfl rfl (one_str _) (own_str _ (fmtEnt xs[k]) HS3.out) fresh_nil (by omega) (by decide) hbs ?_; intro v9 w9 hB9 hE9)
          go_roundw
          case rel => exact ⟨k + 1, by omega, by go_num, by rw [List.take_succ_eq_append_getElem hlt, List.map_append]; exact hB9, hE9 _ (Nat.le_refl _) (hx.trans hy)⟩
          case measure => simp [intOf]; omega
        · rw [List.take_of_length_le (by omega)] at hB
          have HJ := hid (ents_join_size HZ.out xs.length hn)
          have hsl := hid hB.sl
          go_wp2_with fail
          refine (strings_Join_c _ (xs.map fmtEnt) _ _ hsl.out (by rw [List.length_map]; omega) ?_).mono ?_
          · have := HJ.out
            rw [List.take_of_length_le (by rw [List.length_map]; omega)] at this
            omega
          · rintro e w2 ⟨rfl, x2⟩
            go_wp2
            go_ret
            exact ⟨by rw [HF.out]; rfl, (by repeat (first | with_reducible exact Ext.refl _ | with_reducible assumption | with_reducible refine Ext.drew ?_ | with_reducible refine Ext.alloc ?_ _ | with_reducible refine Ext.trans ?_ (by with_reducible assumption)))⟩
  · have hok' : areEnts xs = false := by simpa using hok
    rw [hok']
    go_wp2
    go_ret
    exact ⟨by rw [fmtEnts_no hok]; rfl, x1⟩

set_option maxHeartbeats 400000 in
set_option maxRecDepth 20000 in
theorem spec_FormatEntities (v : Value) (xs : List Entity) (w : World) (h : Sl entityR w v xs) (hb : msEnts xs ≤ 1048576) :
    Calls Tryd.prog 42 #[v] w fun e w2 => e = .returned (.string (fmtEnts xs)) ∧ Ext w w2 := by
  obtain ⟨A, cap, rfl, hm⟩ := h.form
  go_enter Tryd.func42, Tryd.ntmps42
  go_wp2_with fail
  refine (spec_AreEntities _ xs _ h hb).mono ?_
  rintro e w1 ⟨rfl, x1⟩
  by_cases hok : areEnts xs = true
  · rw [hok]
    have HO := hid hok
    clear hok
    by_cases h0 : xs.length = 0
    · have h0' : ((xs.length : Nat) : Int) = 0 := by omega
      go_wp2
      go_ret
      exact ⟨by rw [fmtEnts_none HO.out h0]; rfl, x1⟩
    · have HF := hid (fmtEnts_some HO.out h0)
      have HZ := hid (h.ents_size hb)
      have hn : xs.length ≤ 1048576 := by unfold msEnts at hb; omega
      have hz : (((xs.length : Nat) : Int) == 0) = false := by rw [beq_eq_false_iff_ne]; omega
      clear h0
      go_wp2
      go_loopw [3, 4] (fun s i wr => ∃ (k : Nat), k ≤ xs.length ∧ i = .int .i64 k ∧ s = .string (joinS ((xs.map fmtEnt).take k) ⟨#[32]⟩) ∧ Ext w wr) (fun _ i _ => xs.length - (intOf i).toNat)
      case atStart => exact ⟨0, Nat.zero_le _, rfl, by rw [List.take_zero, joinS_nil], x1⟩
      case round =>
        obtain ⟨k, hk, rfl, rfl, hx⟩ := hrel
        have hjs := ents_join_size HZ.out k hn
        by_cases hlt : k < xs.length
        · have hst := joinS_step (xs.map fmtEnt) k (by rw [List.length_map]; exact hlt) ⟨#[32]⟩
          rw [List.getElem_map] at hst
          have hjs2 := ents_join_size HZ.out (k + 1) hn
          have HST := hid hst
          have HJ2 := hid hjs2
          clear hst hjs2
          obtain ⟨b, off, A2, cap2, rfl, hI, hsl, hc0, hc1⟩ := (h.mono hx).ent hlt
          have hml : xs[k].members.length ≤ 1048576 := by have := sumMem_at xs k hlt; unfold msEnts at hb; omega
          have s1 := itoaS_size hI
          have HI := hid hI
          have e32 : (⟨#[32]⟩ : ByteArray).size = 1 := rfl
          have e58 : (⟨#[58]⟩ : ByteArray).size = 1 := rfl
          have e44 : (⟨#[44]⟩ : ByteArray).size = 1 := rfl
          clear hI
          by_cases hk0 : 0 < k
          · obtain ⟨sa, hsa⟩ : ∃ sa : ByteArray, sa = joinS ((xs.map fmtEnt).take k) ⟨#[32]⟩ ++ ⟨#[32]⟩ := ⟨_, rfl⟩
            have hsz : sa.size ≤ 23089775247361 := by rw [hsa, ByteArray.size_append]; omega
            have hfin : joinS ((xs.map fmtEnt).take (k + 1)) ⟨#[32]⟩ = sa ++ fmtEnt xs[k] := by rw [HST.out, if_pos hk0, hsa]
            have HFIN := hid hfin
            clear hfin HST
            go_wp2_with fail
            rw [← hsa]
            clear hsa hjs
            refine (spec_FormatInt _ _ HI.out).mono ?_
            rintro e w2 ⟨rfl, x2⟩
            obtain ⟨sb, hsb⟩ : ∃ sb : ByteArray, sb = sa ++ itoaS xs[k].id ++ ⟨#[58]⟩ := ⟨_, rfl⟩
            have hszb : sb.size ≤ 23089775247400 := by rw [hsb, ByteArray.size_append, ByteArray.size_append]; omega
            have HSB := hid hsb
            obtain ⟨wo, hwo⟩ : ∃ wo : World, wo = w2 := ⟨_, rfl⟩
            have hxo : Ext w wo := by rw [hwo]; exact hx.trans x2
            go_wp2
            rw [← hsb, ← hwo]
            clear hsb hwo s1
            go_loopw [3, 5] (fun s j w3 => ∃ (q : Nat), q ≤ xs[k].members.length ∧ j = .int .i64 q ∧ s = .string (sb ++ joinS ((xs[k].members.map itoaS).take q) ⟨#[44]⟩) ∧ Ext wo w3) (fun _ j _ => xs[k].members.length - (intOf j).toNat)
            case atStart => exact ⟨0, Nat.zero_le _, rfl, by rw [List.take_zero, joinS_nil]; exact congrArg Value.string ByteArray.append_empty.symm, Ext.refl _⟩
            case round =>
              obtain ⟨q, hq, rfl, rfl, hx3⟩ := hrel
              obtain ⟨b3, off3, A3, cap3, eq3, hI3, hsl3, hd0, hd1⟩ := (h.mono (hxo.trans hx3)).ent hlt
              injection eq3 with eq3
              injection eq3 with eb eo
              subst eb
              subst eo
              clear hI3
              have hjq := joinI_take hsl3.ints_64 hml q
              by_cases hltq : q < xs[k].members.length
              · have hst := joinS_step (xs[k].members.map itoaS) q (by rw [List.length_map]; exact hltq) ⟨#[44]⟩
                rw [List.getElem_map] at hst
                have HST := hid hst
                clear hst
                obtain ⟨b4, off4, rfl, hI4, hc4⟩ := hsl3.int hltq
                have s4 := itoaS_size hI4
                have HI4 := hid hI4
                clear hI4
                by_cases hq0 : 0 < q
                · have hfq : sb ++ joinS ((xs[k].members.map itoaS).take (q + 1)) ⟨#[44]⟩ = sb ++ joinS ((xs[k].members.map itoaS).take q) ⟨#[44]⟩ ++ ⟨#[44]⟩ ++ itoaS xs[k].members[q] := by rw [HST.out, if_pos hq0]; simp only [ByteArray.append_assoc]
                  have HFQ := hid hfq
                  clear hfq HST
                  have hz5 : (sb ++ joinS ((xs[k].members.map itoaS).take q) ⟨#[44]⟩).size ≤ 23089797267500 := by rw [ByteArray.size_append]; omega
                  generalize hsc : sb ++ joinS ((xs[k].members.map itoaS).take q) ⟨#[44]⟩ = sc at HFQ hz5 ⊢
                  clear hsc hjq
                  go_wp2_with fail
                  refine (spec_FormatInt _ _ HI4.out).mono ?_
                  rintro e w4 ⟨rfl, x4⟩
                  go_wp2
                  go_roundw
                  case rel => exact ⟨q + 1, by omega, by go_num, by rw [HFQ.out], hx3.trans x4⟩
                  case measure => simp [intOf]; omega
                · have hfq : sb ++ joinS ((xs[k].members.map itoaS).take (q + 1)) ⟨#[44]⟩ = sb ++ joinS ((xs[k].members.map itoaS).take q) ⟨#[44]⟩ ++ itoaS xs[k].members[q] := by
                    rw [HST.out, if_neg hq0, show (xs[k].members.map itoaS).take q = [] by rw [show q = 0 by omega]; rfl, joinS_nil]
                    congr 1
                    exact ByteArray.append_empty.symm
                  have HFQ := hid hfq
                  clear hfq HST
                  have hz5 : (sb ++ joinS ((xs[k].members.map itoaS).take q) ⟨#[44]⟩).size ≤ 23089797267500 := by rw [ByteArray.size_append]; omega
                  generalize hsc : sb ++ joinS ((xs[k].members.map itoaS).take q) ⟨#[44]⟩ = sc at HFQ hz5 ⊢
                  clear hsc hjq
                  go_wp2_with fail
                  refine (spec_FormatInt _ _ HI4.out).mono ?_
                  rintro e w4 ⟨rfl, x4⟩
                  go_wp2
                  go_roundw
                  case rel => exact ⟨q + 1, by omega, by go_num, by rw [HFQ.out], hx3.trans x4⟩
                  case measure => simp [intOf]; omega
              · have hall : sb ++ joinS ((xs[k].members.map itoaS).take q) ⟨#[44]⟩ = joinS ((xs.map fmtEnt).take (k + 1)) ⟨#[32]⟩ := by
                  rw [HFIN.out, List.take_of_length_le (by rw [List.length_map]; omega), HSB.out]
                  unfold fmtEnt
                  simp only [ByteArray.append_assoc]
                rw [hall]
                clear hall
                go_wp2
                go_roundw
                case rel => exact ⟨k + 1, by omega, by go_num, rfl, hxo.trans hx3⟩
                case measure => simp [intOf]; omega
          · obtain ⟨sa, hsa⟩ : ∃ sa : ByteArray, sa = joinS ((xs.map fmtEnt).take k) ⟨#[32]⟩ := ⟨_, rfl⟩
            have hsz : sa.size ≤ 23089775247361 := by rw [hsa]; omega
            have hfin : joinS ((xs.map fmtEnt).take (k + 1)) ⟨#[32]⟩ = sa ++ fmtEnt xs[k] := by
              rw [HST.out, if_neg hk0, hsa, show (xs.map fmtEnt).take k = [] by rw [show k = 0 by omega]; rfl, joinS_nil]
              exact (ByteArray.empty_append).symm
            have HFIN := hid hfin
            clear hfin HST
            rw [← hsa]
            clear hsa hjs
            go_wp2_with fail
            refine (spec_FormatInt _ _ HI.out).mono ?_
            rintro e w2 ⟨rfl, x2⟩
            obtain ⟨sb, hsb⟩ : ∃ sb : ByteArray, sb = sa ++ itoaS xs[k].id ++ ⟨#[58]⟩ := ⟨_, rfl⟩
            have hszb : sb.size ≤ 23089775247400 := by rw [hsb, ByteArray.size_append, ByteArray.size_append]; omega
            have HSB := hid hsb
            obtain ⟨wo, hwo⟩ : ∃ wo : World, wo = w2 := ⟨_, rfl⟩
            have hxo : Ext w wo := by rw [hwo]; exact hx.trans x2
            go_wp2
            rw [← hsb, ← hwo]
            clear hsb hwo s1
            go_loopw [3, 5] (fun s j w3 => ∃ (q : Nat), q ≤ xs[k].members.length ∧ j = .int .i64 q ∧ s = .string (sb ++ joinS ((xs[k].members.map itoaS).take q) ⟨#[44]⟩) ∧ Ext wo w3) (fun _ j _ => xs[k].members.length - (intOf j).toNat)
            case atStart => exact ⟨0, Nat.zero_le _, rfl, by rw [List.take_zero, joinS_nil]; exact congrArg Value.string ByteArray.append_empty.symm, Ext.refl _⟩
            case round =>
              obtain ⟨q, hq, rfl, rfl, hx3⟩ := hrel
              obtain ⟨b3, off3, A3, cap3, eq3, hI3, hsl3, hd0, hd1⟩ := (h.mono (hxo.trans hx3)).ent hlt
              injection eq3 with eq3
              injection eq3 with eb eo
              subst eb
              subst eo
              clear hI3
              have hjq := joinI_take hsl3.ints_64 hml q
              by_cases hltq : q < xs[k].members.length
              · have hst := joinS_step (xs[k].members.map itoaS) q (by rw [List.length_map]; exact hltq) ⟨#[44]⟩
                rw [List.getElem_map] at hst
                have HST := hid hst
                clear hst
                obtain ⟨b4, off4, rfl, hI4, hc4⟩ := hsl3.int hltq
                have s4 := itoaS_size hI4
                have HI4 := hid hI4
                clear hI4
                by_cases hq0 : 0 < q
                · have hfq : sb ++ joinS ((xs[k].members.map itoaS).take (q + 1)) ⟨#[44]⟩ = sb ++ joinS ((xs[k].members.map itoaS).take q) ⟨#[44]⟩ ++ ⟨#[44]⟩ ++ itoaS xs[k].members[q] := by rw [HST.out, if_pos hq0]; simp only [ByteArray.append_assoc]
                  have HFQ := hid hfq
                  clear hfq HST
                  have hz5 : (sb ++ joinS ((xs[k].members.map itoaS).take q) ⟨#[44]⟩).size ≤ 23089797267500 := by rw [ByteArray.size_append]; omega
                  generalize hsc : sb ++ joinS ((xs[k].members.map itoaS).take q) ⟨#[44]⟩ = sc at HFQ hz5 ⊢
                  clear hsc hjq
                  go_wp2_with fail
                  refine (spec_FormatInt _ _ HI4.out).mono ?_
                  rintro e w4 ⟨rfl, x4⟩
                  go_wp2
                  go_roundw
                  case rel => exact ⟨q + 1, by omega, by go_num, by rw [HFQ.out], hx3.trans x4⟩
                  case measure => simp [intOf]; omega
                · have hfq : sb ++ joinS ((xs[k].members.map itoaS).take (q + 1)) ⟨#[44]⟩ = sb ++ joinS ((xs[k].members.map itoaS).take q) ⟨#[44]⟩ ++ itoaS xs[k].members[q] := by
                    rw [HST.out, if_neg hq0, show (xs[k].members.map itoaS).take q = [] by rw [show q = 0 by omega]; rfl, joinS_nil]
                    congr 1
                    exact ByteArray.append_empty.symm
                  have HFQ := hid hfq
                  clear hfq HST
                  have hz5 : (sb ++ joinS ((xs[k].members.map itoaS).take q) ⟨#[44]⟩).size ≤ 23089797267500 := by rw [ByteArray.size_append]; omega
                  generalize hsc : sb ++ joinS ((xs[k].members.map itoaS).take q) ⟨#[44]⟩ = sc at HFQ hz5 ⊢
                  clear hsc hjq
                  go_wp2_with fail
                  refine (spec_FormatInt _ _ HI4.out).mono ?_
                  rintro e w4 ⟨rfl, x4⟩
                  go_wp2
                  go_roundw
                  case rel => exact ⟨q + 1, by omega, by go_num, by rw [HFQ.out], hx3.trans x4⟩
                  case measure => simp [intOf]; omega
              · have hall : sb ++ joinS ((xs[k].members.map itoaS).take q) ⟨#[44]⟩ = joinS ((xs.map fmtEnt).take (k + 1)) ⟨#[32]⟩ := by
                  rw [HFIN.out, List.take_of_length_le (by rw [List.length_map]; omega), HSB.out]
                  unfold fmtEnt
                  simp only [ByteArray.append_assoc]
                rw [hall]
                clear hall
                go_wp2
                go_roundw
                case rel => exact ⟨k + 1, by omega, by go_num, rfl, hxo.trans hx3⟩
                case measure => simp [intOf]; omega
        · rw [List.take_of_length_le (by rw [List.length_map]; omega)]
          go_wp2
          go_ret
          exact ⟨by rw [HF.out]; rfl, hx⟩
  · have hok' : areEnts xs = false := by simpa using hok
    rw [hok']
    go_wp2
    go_ret
    exact ⟨by rw [fmtEnts_no hok]; rfl, x1⟩
end Go.Proofs.YtfieimmlcopbhaaDoor
