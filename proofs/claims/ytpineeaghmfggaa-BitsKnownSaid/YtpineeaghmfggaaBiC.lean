/- The reference of package bits: Of and List. Condition: numbers that a memory can hold. -/
import Derived.Test.YtpineeaghmfggaaBiB
namespace Go.Proofs.Ytpineeaghmfggaa
set_option linter.unusedVariables false
set_option linter.unusedSimpArgs false
set_option maxRecDepth 100000
open Go.RowKit
attribute [local go_sem ↓] Go.wp_at_zero Go.wp_at_succ

/-- 64 rows, true or not -/
def rwC (n : Nat) : Array Value := (List.map (fun (i : Nat) => Value.bool (n.testBit i)) (List.range 64)).toArray
theorem rwC_size (n : Nat) : (rwC n).size = 64 := by simp [rwC]
theorem rwC_get (n i : Nat) (hi : i < 64) : (rwC n)[i]? = some (.bool (n.testBit i)) := by
  rw [rwC, List.getElem?_toArray, List.getElem?_map, List.getElem?_range hi]; rfl
theorem rwC_one (n : Nat) : (rwC n).toList.all (·.oneCell') = true := by
  rw [List.all_eq_true]
  intro v hv
  rw [rwC, List.toList_toArray] at hv
  obtain ⟨i, _, rfl⟩ := List.mem_map.1 hv
  rfl
theorem rwC_set (n m i : Nat) (hi : i < 64) (b : Bool) (hm : ∀ j, j < 64 → m.testBit j = if i = j then b else n.testBit j) : (rwC n).setIfInBounds i (.bool b) = rwC m := by
  apply Array.ext_getElem?
  intro j
  rw [Array.getElem?_setIfInBounds]
  by_cases hj : j < 64
  · rw [rwC_get m j hj, hm j hj]
    by_cases h : i = j
    · subst h
      simp [rwC_size, hi]
    · rw [if_neg h, if_neg h, rwC_get n j hj]
  · rw [if_neg (by omega), Array.getElem?_eq_none (by rw [rwC_size]; omega), Array.getElem?_eq_none (by rw [rwC_size]; omega)]
theorem rwC_yes (n i : Nat) (hi : i < 64) : (rwC n).setIfInBounds i (.bool true) = rwC (n ||| rowN (i : Int)) := by
  refine rwC_set n _ i hi true (fun j hj => ?_)
  rw [Nat.testBit_or, tb_row _ j hj]
  by_cases h : i = j
  · simp [h]
  · have : ((i : Int) == (j : Int)) = false := beq_eq_false_iff_ne.2 (by omega)
    simp [h, this]
theorem rwC_no (n i : Nat) (hi : i < 64) : (rwC n).setIfInBounds i (.bool false) = rwC (anN n (rowN (i : Int))) := by
  refine rwC_set n _ i hi false (fun j hj => ?_)
  rw [tb_an n _ j (rowN_b _) hj, tb_row _ j hj]
  by_cases h : i = j
  · simp [h]
  · have : ((i : Int) == (j : Int)) = false := beq_eq_false_iff_ne.2 (by omega)
    simp [h, this]
abbrev zlit : Array Value := #[.bool false, .bool false, .bool false, .bool false, .bool false, .bool false, .bool false, .bool false, .bool false, .bool false, .bool false, .bool false, .bool false, .bool false, .bool false, .bool false, .bool false, .bool false, .bool false, .bool false, .bool false, .bool false, .bool false, .bool false, .bool false, .bool false, .bool false, .bool false, .bool false, .bool false, .bool false, .bool false, .bool false, .bool false, .bool false, .bool false, .bool false, .bool false, .bool false, .bool false, .bool false, .bool false, .bool false, .bool false, .bool false, .bool false, .bool false, .bool false, .bool false, .bool false, .bool false, .bool false, .bool false, .bool false, .bool false, .bool false, .bool false, .bool false, .bool false, .bool false, .bool false, .bool false, .bool false, .bool false]
theorem zlit_eq : zlit = rwC 0 := by kernel_rfl
theorem size_rows : (Try.prog.info? 30).map (·.size) = some 64 := by kernel_rfl

set_option maxHeartbeats 2000000 in
theorem refOf_any (A : Option Addr) (c : Nat) (L : List Int) (hL : L.length ≤ maxLen) (w : World) (hA : IntsAt w w.heap.size A L) :
    Calls Try.prog 18 #[.slice A L.length c] w fun e w' => e = .returned (.agg (rwC (ofN L))) ∧ Below w.heap.size w w' := by
  have HA := Lib.hid hA
  have hLm : L.length ≤ 9223372036854775807 := hL
  clear hA hL
  go_enter Try.func18, Try.ntmps18
  go_upto_region 2 with fail
  have k1 := Blk.new w 30 zlit 0 0 (Or.inl (Nat.le_refl _))
  have k2 := Blk.new (w.alloc (.cells zlit 30)) 30 zlit 0 0 (Or.inl (Nat.le_refl _))
  rw [size_alloc] at k2
  have k1' := k1.alloc (.cells zlit 30)
  have hb := ((Below.refl _ w).alloc (Nat.le_refl _) (.cells zlit 30)).alloc (by simp) (.cells zlit 30)
  generalize World.alloc (World.alloc _ _) _ = w1 at k1' k2 hb ⊢
  rw [zlit_eq] at k1' k2
  have HK1 := Lib.hid k1'
  have HK2 := Lib.hid k2
  have HB0 := Lib.hid hb
  clear k1 k2 hb k1'
  go_wp2
  go_loopw [4] (fun i wr => ∃ k : Nat, k ≤ L.length ∧ i = .int .i64 k ∧ Blk wr w.heap.size 30 (rwC 0) ∧ Blk wr (w.heap.size + 1) 30 (rwC (ofN (L.take k))) ∧ Below w.heap.size w wr) (fun i _ => L.length - (intOf i).toNat)
  case atStart => exact ⟨0, by omega, rfl, HK1.out, HK2.out, HB0.out⟩
  case round =>
    obtain ⟨k, hk, rfl, hk1, hk2, hbel⟩ := hrel
    have HK1' := Lib.hid hk1
    have HK2' := Lib.hid hk2
    have HB := Lib.hid hbel
    clear HK1 HK2 HB0
    by_cases hlt : k < L.length
    · have hlt' : (k : Int) < (L.length : Int) := by omega
      obtain ⟨b, o, rfl, hbl, hcell⟩ : ∃ b o, A = some ⟨b, o, none⟩ ∧ b < wr.heap.size ∧ ∀ j (hj : j < L.length), wr.cell? ⟨b, o + j, none⟩ = some (.int .i64 L[j]) := by
        rcases HA.out.up hbel with h | h
        · rw [h] at hlt; simp at hlt
        · exact h
      have hc := hcell k hlt
      have hst : ofN (L.take (k + 1)) = ofN (L.take k) ||| rowN L[k] := by rw [List.take_succ_eq_append_getElem hlt, of_snoc]
      generalize L[k] = r at hc hst
      have HST := Lib.hid hst
      clear hcell hbel hk1 hk2 hbl hst
      by_cases hr : r < 0 ∨ 64 ≤ r
      · have e : rowN r = 0 := by unfold rowN; rw [if_pos hr]
        have e2 := HST.out
        rw [e, Nat.or_zero] at e2
        have HE := Lib.hid e2
        have hr2 : ¬ (0 ≤ r) ∨ (0 ≤ r ∧ 64 ≤ r) := by omega
        clear e e2 hr HST
        rcases hr2 with h1 | ⟨h1, h2⟩
        all_goals
          go_wp2
          go_roundw
          case rel => exact ⟨k + 1, by omega, by go_num, HK1'.out, by rw [HE.out]; exact HK2'.out, HB.out⟩
          case measure => simp [intOf] <;> omega
      · obtain ⟨j, rfl⟩ : ∃ j : Nat, r = (j : Int) := ⟨r.toNat, by omega⟩
        have hj : j < 64 := by omega
        have hji : (j : Int) < 64 := by omega
        have hcj := HK2'.out.cell j
        rw [rwC_get _ j hj] at hcj
        have hfj := HK2'.out.free j (by rw [rwC_size]; exact hj)
        have hk2 := HK2'.out.set j (.bool true)
        rw [rwC_yes _ j hj, ← HST.out] at hk2
        have HX2 := Lib.hid hk2
        have HX1 := Lib.hid (HK1'.out.set_other ⟨w.heap.size + 1, j, none⟩ (.bool true) (by show w.heap.size ≠ w.heap.size + 1; omega))
        have HX3 := Lib.hid (Below.setCell (p := ⟨w.heap.size + 1, j, none⟩) HB.out (Nat.le_succ _) (.bool true))
        clear hk2 hr HST HK1' HK2' HB
        go_wp2
        go_roundw
        case rel => exact ⟨k + 1, by omega, by go_num, HX1.out, HX2.out, HX3.out⟩
        case measure => simp [intOf] <;> omega
    · have hlt' : (L.length : Int) ≤ (k : Int) := by omega
      have htk : L.take k = L := List.take_of_length_le (by omega)
      rw [htk] at HK2'
      have HX1 := Lib.hid (HK1'.out.setAll (cs := rwC (ofN L)) (by rw [rwC_size, rwC_size]))
      clear htk hk1 hk2 hbel
      have tokA : True := trivial
      go_wp2_with (first | (have _t := tokA; refine wpList_load_blk rfl 30 _ rfl (w.heap.size + 1) rfl (rwC (ofN L)) 30 _ HK2'.out Try.underlying30 rfl (by rw [rwC_size]; exact size_rows) ?_; clear tokA; have tokB : True := trivial) | (have _t := tokB; refine wpList_store_blk rfl 30 _ _ rfl w.heap.size (rwC (ofN L)) rfl rfl (rwC 0) 30 HK1'.out (by rw [rwC_size, rwC_size]) (by rw [rwC_size]; exact size_rows) (rwC_one _) ?_; clear tokB))
      exact bodyPost_ret (results_cell1 Try.results18 _ _ w.heap.size _ _ _ rfl HX1.out Try.underlying30 rfl (by rw [rwC_size]; exact size_rows)) rfl ⟨rfl, Below.setCells HB.out (Nat.le_refl _) _ _⟩

set_option maxHeartbeats 2000000 in
theorem list_any (n : Nat) (w : World) : Calls Try.prog 14 #[.agg (rwC n)] w fun e w' => ∃ v, e = .returned v ∧ w'.ownsRow w.heap.size 3 1 v (rowsN n).length ((rowsN n).map encInt) ∧ Below w.heap.size w w' := by
  go_enter Try.func14, Try.ntmps14
  go_upto_region 2 with fail
  have HK0 := Lib.hid (Blk.new w 30 (rwC n) 0 0 (Or.inl (Nat.le_refl _)))
  have HB0 := Lib.hid ((Below.refl _ w).alloc (Nat.le_refl _) (.cells (rwC n) 30))
  generalize World.alloc _ _ = w1 at HK0 HB0 ⊢
  go_wp2
  go_loopw [4, 3] (fun i v wr => ∃ k : Nat, k ≤ 64 ∧ i = .int .i64 k ∧ wr.ownsRow (w.heap.size + 1) 3 1 v (rowsK n k).length ((rowsK n k).map encInt) ∧ Blk wr w.heap.size 30 (rwC n) ∧ Below w.heap.size w wr) (fun i _ _ => 64 - (intOf i).toNat)
  case atStart => exact ⟨0, by omega, rfl, World.ownsRow_nil _ _ _ _, HK0.out, HB0.out⟩
  case round =>
    obtain ⟨k, hk, rfl, hown, hbk, hbel⟩ := hrel
    have HO2 := Lib.hid hown
    have HK2 := Lib.hid hbk
    have HB2 := Lib.hid hbel
    have hlt2 : w.heap.size + 1 ≤ wr.heap.size := hbk.lt
    clear HK0 HB0 hown
    by_cases hlt : k < 64
    · have hlt' : (k : Int) < 64 := by omega
      have hc := hbk.cell k
      rw [rwC_get n k hlt] at hc
      clear hbk hbel
      cases hbit : n.testBit k
      · rw [hbit] at hc
        have hr := rowsK_no n k hbit
        have HR := Lib.hid hr
        clear hr hbit
        go_wp2
        go_roundw
        case rel => exact ⟨k + 1, by omega, by go_num, by rw [HR.out]; exact HO2.out, HK2.out, HB2.out⟩
        case measure => simp [intOf] <;> omega
      · rw [hbit] at hc
        have hr := rowsK_yes n k hbit
        have hl : (rowsK n (k + 1)).length = (rowsK n k).length + 1 := by rw [hr, List.length_append]; rfl
        have hl2 := rowsK_le n k
        have HR := Lib.hid hr
        have HL := Lib.hid hl
        clear hr hl hbit
        have tokA : True := trivial
        go_wp2_with (have _t := tokA; clear tokA; at_builtin; refine wpList_appI rfl (.tmp 12) (.tmp 14) rfl (w.heap.size + 1) _ _ _ rfl (HO2.out.alloc (.cells #[.int .i64 (k : Int)] 3)) _ _ _ [(k : Int)] rfl rfl (one_int _ _) (fun h => by cases h) (by omega) (by rw [size_alloc]; omega) ?_; intro v' w4 hown hg; rw [← HR.out, ← HL.out] at hown; have HO4 := Lib.hid hown; have HK4 := Lib.hid ((HK2.out.alloc _).grown hg (fun q hq => by have := (HO2.out.lt q hq).1; omega)); have HB5 := Lib.hid ((HB2.out.alloc (by omega) _).grown hg (by rw [size_alloc]; omega) (fun q hq => by have := (HO2.out.lt q hq).1; omega)); clear hown hg HO2 HB2)
        go_roundw
        case rel => exact ⟨k + 1, by omega, by go_num, HO4.out, HK4.out, HB5.out⟩
        case measure => simp [intOf] <;> omega
    · have h64 : k = 64 := by omega
      subst h64
      clear hbk hbel
      go_wp2
      go_ret
      exact ⟨_, rfl, own_weak HO2.out (Nat.le_succ _), HB2.out⟩
end Go.Proofs.Ytpineeaghmfggaa
