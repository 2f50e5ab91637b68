/- Package bits: Of and Rows. Condition: numbers that a memory can hold. -/
import Derived.Test.YtpineeaghmfggaaBiA
import Derived.Test.YtpineeaghmfggaaIntA
namespace Go.Proofs.Ytpineeaghmfggaa
set_option linter.unusedVariables false
set_option linter.unusedSimpArgs false
set_option maxRecDepth 100000
open Go.RowKit
attribute [local go_sem ↓] Go.wp_at_zero Go.wp_at_succ

set_option maxHeartbeats 1000000 in
theorem of_any (A : Option Addr) (c : Nat) (L : List Int) (hL : L.length ≤ maxLen) (w : World) (hA : IntsAt w w.heap.size A L) :
    Calls Try.prog 15 #[.slice A L.length c] w fun e w' => e = .returned (bv (ofN L)) ∧ Below w.heap.size w w' := by
  have HA := Lib.hid hA
  have hLm : L.length ≤ 9223372036854775807 := hL
  have R := Lib.hid (fun r w => row_any r w)
  clear hA hL
  go_enter Try.func15, Try.ntmps15
  go_upto_region 2 with fail
  have k1 := Blk.new w 25 #[.int .u64 0] 0 0 (Or.inl (Nat.le_refl _))
  have k2 := Blk.new (w.alloc (.cells #[.int .u64 0] 25)) 25 #[.int .u64 0] 0 0 (Or.inl (Nat.le_refl _))
  rw [size_alloc] at k2
  have k1' := k1.alloc (.cells #[.int .u64 0] 25)
  have hb := ((Below.refl _ w).alloc (Nat.le_refl _) (.cells #[.int .u64 0] 25)).alloc (by simp) (.cells #[.int .u64 0] 25)
  have HK1 := Lib.hid k1'
  have HK2 := Lib.hid k2
  have HB0 := Lib.hid hb
  clear k1 k2 hb k1'
  generalize World.alloc (World.alloc _ _) _ = w1 at HK1 HK2 HB0 ⊢
  go_wp2
  go_loopw [8] (fun i wr => ∃ k : Nat, k ≤ L.length ∧ i = .int .i64 k ∧ Blk wr w.heap.size 25 #[.int .u64 0] ∧ Blk wr (w.heap.size + 1) 25 #[.int .u64 (ofN (L.take k) : Int)] ∧ Below w.heap.size w wr) (fun i _ => L.length - (intOf i).toNat)
  case atStart => exact ⟨0, by omega, rfl, HK1.out, HK2.out, HB0.out⟩
  case round =>
    obtain ⟨k, hk, rfl, hk1, hk2, hbel⟩ := hrel
    have HK1' := Lib.hid hk1
    have HK2' := Lib.hid hk2
    have HB := Lib.hid hbel
    clear HK1 HK2 HB0
    by_cases hlt : k < L.length
    · have hlt' : (k : Int) < (L.length : Int) := by omega
      obtain ⟨b, o, rfl, hbl, hcell⟩ : ∃ b o, A = some ⟨b, o, none⟩ ∧ b < wr.heap.size ∧ ∀ j (hj : j < L.length), wr.cell? ⟨b, o + j, none⟩ = some (.int .i64 L[j]) := by
        rcases HA.out.up hbel with h | h
        · rw [h] at hlt; simp at hlt
        · exact h
      have hc := hcell k hlt
      have hst : ofN (L.take (k + 1)) = ofN (L.take k) ||| rowN L[k] := by rw [List.take_succ_eq_append_getElem hlt, of_snoc]
      have hor := u64_or_nat (ofN (L.take k)) (rowN L[k]) (of_b _) (rowN_b _)
      rw [← hst] at hor
      have RK := Lib.hid (R.out L[k])
      generalize rowN L[k] = m at hor RK
      generalize L[k] = r at hc RK
      have hc1 := hk2.cell 0
      have hf1 := hk2.free 0 (by simp)
      have HQ := Lib.hid hst
      clear hcell hbel hk1 hk2 hbl hst HQ
      generalize ofN (L.take k) = q at hor hc1 HK2' ⊢
      go_upto_region 5 with fail
      go_region_with ((go_at_call 26; refine (RK.out _).mono ?_; rintro e w2 ⟨rfl, hw2⟩; subst hw2))
      all_goals
        have hk1 := Blk.drew (HK1'.out.set_other ⟨w.heap.size + 1, 0, none⟩ (.int .u64 (ofN (L.take (k + 1)) : Int)) (by show w.heap.size ≠ w.heap.size + 1; omega))
        have hk2 := Blk.drew (HK2'.out.set 0 (.int .u64 (ofN (L.take (k + 1)) : Int)))
        have hb := (Below.setCell (p := ⟨w.heap.size + 1, 0, none⟩) HB.out (Nat.le_succ _) (.int .u64 (ofN (L.take (k + 1)) : Int))).drew
        have HX1 := Lib.hid hk1
        have HX2 := Lib.hid hk2
        have HX3 := Lib.hid hb
        clear hk1 hk2 hb hc hc1 hf1 hor
        generalize World.drew _ = w9 at HX1 HX2 HX3 ⊢
        go_wp2
        go_roundw
        case rel => exact ⟨k + 1, by omega, by go_num, HX1.out, HX2.out, HX3.out⟩
        case measure => simp [intOf] <;> omega
    · have hlt' : (L.length : Int) ≤ (k : Int) := by omega
      have htk : L.take k = L := List.take_of_length_le (by omega)
      rw [htk] at hk2
      have hc1 := hk2.cell 0
      have hc0 := hk1.cell 0
      have hf0 := hk1.free 0 (by simp)
      have hs := hk1.set 0 (.int .u64 (ofN L : Int))
      have hb := Below.setCell (p := ⟨w.heap.size, 0, none⟩) HB.out (Nat.le_refl _) (.int .u64 (ofN L : Int))
      have HX1 := Lib.hid hs
      have HX3 := Lib.hid hb
      clear hs hb htk hk1 hk2 HK1' HK2' hbel
      go_wp2
      exact bodyPost_ret (results_cell1 Try.results15 _ _ w.heap.size _ _ _ rfl HX1.out Try.underlying25 rfl size_bits) rfl ⟨rfl, HX3.out⟩
theorem of_new (L : List Int) (hL : L.length ≤ maxLen) (C : Array Value) (hC : C = (L.map encInt).toArray) (n : Nat) (hn : n = L.length) (w : World) :
    Calls Try.prog 15 #[.slice (some ⟨w.heap.size, 0, none⟩) n n] (w.alloc (.cells C 3)) fun e w' => e = .returned (bv (ofN L)) ∧ Below w.heap.size w w' := by
  subst hn
  refine (of_any _ _ L hL _ (ints_new w _ C L hC)).mono ?_
  rintro e w' ⟨rfl, hb⟩
  exact ⟨rfl, Below.step ((Below.refl _ w).alloc (Nat.le_refl _) _) hb⟩

/-- the rows below k that are set -/
def rowsK (n k : Nat) : List Int := List.map (fun (i : Nat) => (i : Int)) ((List.range k).filter (fun i => n.testBit i))
theorem rowsK_all (n : Nat) : rowsK n 64 = rowsN n := rfl
theorem rowsK_yes (n k : Nat) (h : n.testBit k = true) : rowsK n (k + 1) = rowsK n k ++ [(k : Int)] := by
  rw [rowsK, List.range_succ, List.filter_append, List.map_append]
  simp [rowsK, h]
theorem rowsK_no (n k : Nat) (h : n.testBit k = false) : rowsK n (k + 1) = rowsK n k := by
  rw [rowsK, List.range_succ, List.filter_append, List.map_append]
  simp [rowsK, h]
theorem rowsK_le (n k : Nat) : (rowsK n k).length ≤ k := by
  rw [rowsK, List.length_map]
  exact Nat.le_trans (List.length_filter_le _ _) (by rw [List.length_range]; exact Nat.le_refl _)

theorem own_weak {w : World} {B B' : Nat} {e : TypeId} {size : Nat} {v : Value} {n : Nat} {xs : List Value} (h : w.ownsRow B e size v n xs) (hB : B' ≤ B) : w.ownsRow B' e size v n xs := by
  refine ⟨h.1, ?_⟩
  rcases h.2 with h | ⟨g, cap, cur, h1, h2, h3⟩
  · exact Or.inl h
  · exact Or.inr ⟨g, cap, cur, h1, Nat.le_trans hB h2, h3⟩
theorem Blk.grown {w w' : World} {b : Nat} {e : TypeId} {C : Array Value} {row : Option Nat} (h : Blk w b e C) (hg : w.grownBy w' row) (hne : ∀ q, row = some q → b < q) : Blk w' b e C :=
  h.of_heap (hg.block b h.lt (fun he => by have := hne b he.symm; omega))

set_option maxHeartbeats 1000000 in
theorem rows_any (n : Nat) (hn : B64 n) (w : World) : Calls Try.prog 13 #[bv n] w fun e w' => ∃ v, e = .returned v ∧ w'.ownsRow w.heap.size 3 1 v (rowsN n).length ((rowsN n).map encInt) ∧ Below w.heap.size w w' := by
  have H := Lib.hid (fun (i : Nat) (hi : i < 64) w => (by have h := has_any n hn (i : Int) w; rw [has_row n i hi] at h; exact h : Calls Try.prog 22 #[bv n, .int .i64 (i : Int)] w fun e w' => e = .returned (.bool (n.testBit i)) ∧ Below w.heap.size w w'))
  go_enter Try.func13, Try.ntmps13
  go_upto_region 2 with fail
  have HK0 := Lib.hid (Blk.new w 25 #[.int .u64 (n : Int)] 0 0 (Or.inl (Nat.le_refl _)))
  have HB0 := Lib.hid ((Below.refl _ w).alloc (Nat.le_refl _) (.cells #[.int .u64 (n : Int)] 25))
  generalize World.alloc _ _ = w1 at HK0 HB0 ⊢
  go_wp2
  go_loopw [5, 3] (fun i v wr => ∃ k : Nat, k ≤ 64 ∧ i = .int .i64 k ∧ wr.ownsRow (w.heap.size + 1) 3 1 v (rowsK n k).length ((rowsK n k).map encInt) ∧ Blk wr w.heap.size 25 #[.int .u64 (n : Int)] ∧ Below w.heap.size w wr) (fun i _ _ => 64 - (intOf i).toNat)
  case atStart => exact ⟨0, by omega, rfl, World.ownsRow_nil _ _ _ _, HK0.out, HB0.out⟩
  case round =>
    obtain ⟨k, hk, rfl, hown, hbk, hbel⟩ := hrel
    have HO := Lib.hid hown
    have HK := Lib.hid hbk
    have HB := Lib.hid hbel
    have hlt1 : w.heap.size + 1 ≤ wr.heap.size := hbk.lt
    clear HK0 HB0 hown
    by_cases hlt : k < 64
    · have hlt' : (k : Int) < 64 := by omega
      have hc := hbk.cell 0
      have HH := Lib.hid (H.out k hlt)
      clear hbk hbel
      go_wp2_with fail
      refine (HH.out _).mono ?_
      rintro e w2 ⟨rfl, hb⟩
      have HK2 := Lib.hid (HK.out.below hb hlt1)
      have HB2 := Lib.hid (Below.step HB.out hb)
      have HG : Hid (wr.grownBy w2 none) := ⟨hb.os, hb.tape, hb.output, hb.size, fun q hq _ => hb.block q hq⟩
      have HO2 := Lib.hid (HO.out.kept HG.out (by cases Value.ownBlock _ <;> simp))
      have hlt2 : w.heap.size + 1 ≤ w2.heap.size := HK2.out.lt
      clear hb hc HK HB HG HO hlt1
      cases hbit : n.testBit k
      · have hr := rowsK_no n k hbit
        have HR := Lib.hid hr
        clear hr hbit
        go_wp2
        go_roundw
        case rel => exact ⟨k + 1, by omega, by go_num, by rw [HR.out]; exact HO2.out, HK2.out, HB2.out⟩
        case measure => simp [intOf] <;> omega
      · have hr := rowsK_yes n k hbit
        have hl : (rowsK n (k + 1)).length = (rowsK n k).length + 1 := by rw [hr, List.length_append]; rfl
        have hl2 := rowsK_le n k
        have HR := Lib.hid hr
        have HL := Lib.hid hl
        clear hr hl hbit
        have tokA : True := trivial
        go_wp2_with (have _t := tokA; clear tokA; at_builtin; go_loud (refine wpList_appI rfl (.tmp 11) (.tmp 13) rfl (w.heap.size + 1) _ _ _ rfl (HO2.out.alloc (.cells #[.int .i64 (k : Int)] 3)) _ _ _ [(k : Int)] rfl rfl (one_int _ _) (fun h => by cases h) (by omega) (by rw [size_alloc]; omega) ?_; intro v' w4 hown hg; rw [← HR.out, ← HL.out] at hown; have HO4 := Lib.hid hown; have HK4 := Lib.hid ((HK2.out.alloc _).grown hg (fun q hq => by have := (HO2.out.lt q hq).1; omega)); have HB5 := Lib.hid ((HB2.out.alloc (by omega) _).grown hg (by rw [size_alloc]; omega) (fun q hq => by have := (HO2.out.lt q hq).1; omega)); clear hown hg HO2 HB2))
        go_roundw
        case rel => exact ⟨k + 1, by omega, by go_num, HO4.out, HK4.out, HB5.out⟩
        case measure => simp [intOf] <;> omega
    · have h64 : k = 64 := by omega
      subst h64
      clear hbk hbel
      go_wp2
      go_ret
      exact ⟨_, rfl, own_weak HO.out (Nat.le_succ _), HB.out⟩
end Go.Proofs.Ytpineeaghmfggaa
